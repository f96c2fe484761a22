/- ProducerOnce: what lies in memory. -/
import Derived.Test.YtghciaaedjomjaaProdM
import Derived.Test.YtghciaaedjomjaaOnceP
namespace Go.Proofs.Ytghciaaedjomjaa
open Go.RowKit

def encK (k : Kp) : List Value := [.int .i64 k.id, .int .i64 k.epoch, .int .i64 k.seq, .int .i64 k.pos]
theorem encK_len (k : Kp) : (encK k).length = 4 := rfl
theorem encK_one (k : Kp) : ∀ u ∈ encK k, u.oneCell' = true := by simp [encK, Value.oneCell']
theorem info_Kept : (Try.prog.info? 39).map (fun i => (i.zero, i.size, i.bytes)) = some (some (.agg #[.int .i64 0, .int .i64 0, .int .i64 0, .int .i64 0]), 4, 32) := by kernel_rfl
def encQ (o : POp) : List Value := [.int .i64 o.dO, .int .i64 o.id, .int .i64 o.ep, .int .i64 o.sq, .int .i64 o.far]
theorem encQ_len (o : POp) : (encQ o).length = 5 := rfl
theorem cellsK {w W : World} {b off : Nat} {l : List Kp} (hx : ∀ j x, l[j]? = some x → ∀ i v, (encK x)[i]? = some v → w.cell? ⟨b, off + j * 4 + i, none⟩ = some v) (hb : b < w.heap.size) (hW : Below w.heap.size w W) {j : Nat} {x : Kp} (hj : l[j]? = some x) :
    W.cell? ⟨b, off + j * 4, none⟩ = some (.int .i64 x.id) ∧ W.cell? ⟨b, off + j * 4 + 1, none⟩ = some (.int .i64 x.epoch) ∧ W.cell? ⟨b, off + j * 4 + 2, none⟩ = some (.int .i64 x.seq) ∧ W.cell? ⟨b, off + j * 4 + 3, none⟩ = some (.int .i64 x.pos) :=
  ⟨(hW.cell (p := ⟨_, _, none⟩) hb).trans (hx j x hj 0 _ rfl), (hW.cell (p := ⟨_, _, none⟩) hb).trans (hx j x hj 1 _ rfl), (hW.cell (p := ⟨_, _, none⟩) hb).trans (hx j x hj 2 _ rfl), (hW.cell (p := ⟨_, _, none⟩) hb).trans (hx j x hj 3 _ rfl)⟩
theorem cellsQ {w W : World} {b off : Nat} {l : List POp} (hx : ∀ j x, l[j]? = some x → ∀ i v, (encQ x)[i]? = some v → w.cell? ⟨b, off + j * 5 + i, none⟩ = some v) (hb : b < w.heap.size) (hW : Below w.heap.size w W) {j : Nat} {x : POp} (hj : l[j]? = some x) :
    W.cell? ⟨b, off + j * 5, none⟩ = some (.int .i64 x.dO) ∧ W.cell? ⟨b, off + j * 5 + 1, none⟩ = some (.int .i64 x.id) ∧ W.cell? ⟨b, off + j * 5 + 2, none⟩ = some (.int .i64 x.ep) ∧ W.cell? ⟨b, off + j * 5 + 3, none⟩ = some (.int .i64 x.sq) ∧ W.cell? ⟨b, off + j * 5 + 4, none⟩ = some (.int .i64 x.far) :=
  ⟨(hW.cell (p := ⟨_, _, none⟩) hb).trans (hx j x hj 0 _ rfl), (hW.cell (p := ⟨_, _, none⟩) hb).trans (hx j x hj 1 _ rfl), (hW.cell (p := ⟨_, _, none⟩) hb).trans (hx j x hj 2 _ rfl), (hW.cell (p := ⟨_, _, none⟩) hb).trans (hx j x hj 3 _ rfl), (hW.cell (p := ⟨_, _, none⟩) hb).trans (hx j x hj 4 _ rfl)⟩
theorem Blk.five {w : World} {g : Nat} {t : TypeId} {a b c d e : Value} (h : Blk w g t #[a, b, c, d, e]) : w.cell? ⟨g, 0, none⟩ = some a ∧ w.cell? ⟨g, 1, none⟩ = some b ∧ w.cell? ⟨g, 2, none⟩ = some c ∧ w.cell? ⟨g, 3, none⟩ = some d ∧ w.cell? ⟨g, 4, none⟩ = some e ∧ ∀ i, w.frozen? ⟨g, i, none⟩ = false :=
  ⟨h.cell 0, h.cell 1, h.cell 2, h.cell 3, h.cell 4, h.frozen⟩

/-- What the loop holds: the table, what was stored, the epochs. -/
def MemO (B G : Nat) (w : World) (s4 s5 : Value) (st : PSt) : Prop :=
  ∃ A c, s4 = .slice A st.s.length c ∧ TabP (fun b => b ≠ G ∧ s5.ownBlock ≠ some b) w A c st.s ∧ w.ownsRow B 39 4 s5 st.all.length (st.all.flatMap encK) ∧ Blk w G 3 (st.ep.map (Value.int .i64)).toArray ∧ s5.ownBlock ≠ some G
theorem MemO.below {B G : Nat} {w w' : World} {s4 s5 : Value} {st : PSt} (h : MemO B G w s4 s5 st) (hb : Below w.heap.size w w') : MemO B G w' s4 s5 st := by
  obtain ⟨A, c, h1, h2, h3, h4, h5⟩ := h
  exact ⟨A, c, h1, h2.below hb, own_below h3 hb, h4.below hb h4.lt, h5⟩
theorem MemO.ep {B G : Nat} {w : World} {s4 s5 : Value} {st : PSt} (h : MemO B G w s4 s5 st) (hl : st.ep.length = 64) {m : Nat} (hm : m < 64) : w.cell? ⟨G, m, none⟩ = some (.int .i64 st.ep[m]!) ∧ w.frozen? ⟨G, m, none⟩ = false := by
  obtain ⟨A, c, h1, h2, h3, h4, h5⟩ := h
  refine ⟨?_, h4.frozen m⟩
  rw [h4.cell, List.getElem?_toArray, List.getElem?_map, List.getElem?_eq_getElem (by omega)]
  rw [getElem!_pos _ m (by omega)]
  rfl
/-- The epoch of a producer is written. -/
theorem MemO.fence {B G : Nat} {w : World} {s4 s5 : Value} {st : PSt} {A : Option Addr} {c : Nat} {s' : List Prd} {P : Nat → Prop} (h : MemO B G w s4 s5 st) (ht : TabP P w A c s') (hP : ∀ b, b < w.heap.size → P b → b ≠ G ∧ s5.ownBlock ≠ some b) (m : Nat) (e : Int) :
    MemO B G (w.setCell ⟨G, m, none⟩ (.int .i64 e)) (.slice A s'.length c) s5 ⟨s', st.all, st.ep.set m e, st.pos⟩ := by
  obtain ⟨A0, c0, h1, h2, h3, h4, h5⟩ := h
  refine ⟨A, c, rfl, (ht.mono hP).keep (by simp [World.setCell]) (fun b _ hb => Below.heap_setCell w ⟨G, m, none⟩ _ b hb.1), ?_, ?_, h5⟩
  · exact ownsRow_setCell_other h3 (by simpa using h5) _
  · have := h4.set_ m (.int .i64 e)
    simpa [List.map_set] using this
theorem MemO.turn {B G : Nat} {w : World} {s4 s5 : Value} {st : PSt} {A : Option Addr} {c : Nat} {s' : List Prd} {P : Nat → Prop} (h : MemO B G w s4 s5 st) (ht : TabP P w A c s') (hP : ∀ b, b < w.heap.size → P b → b ≠ G ∧ s5.ownBlock ≠ some b) (pos : Int) : MemO B G w (.slice A s'.length c) s5 ⟨s', st.all, st.ep, pos⟩ := by
  obtain ⟨A0, c0, h1, h2, h3, h4, h5⟩ := h
  exact ⟨A, c, rfl, ht.mono hP, h3, h4, h5⟩
theorem MemO.app {B G : Nat} {w w' : World} {s4 s5 s5' : Value} {st : PSt} {k : Kp} (h : MemO B G w s4 s5 st) (hown : w'.ownsRow B 39 4 s5' (st.all.length + 1) ((st.all ++ [k]).flatMap encK)) (hg : w.grownBy w' s5.ownBlock) (hat : s5'.ownBlock = s5.ownBlock ∨ s5'.ownBlock = some w.heap.size) :
    MemO B G w' s4 s5' ⟨st.s, st.all ++ [k], st.ep, st.pos⟩ := by
  obtain ⟨A, c, h1, h2, h3, h4, h5⟩ := h
  have hgl := h4.lt
  refine ⟨A, c, h1, ?_, by simpa using hown, h4.grown hg (fun e => h5 e.symm), ?_⟩
  · have h6 : TabP (fun b => (b ≠ G ∧ s5.ownBlock ≠ some b) ∧ b < w.heap.size) w A c st.s := h2.mono fun b hb hp => ⟨hp, hb⟩
    have h7 : TabP (fun b => (b ≠ G ∧ s5.ownBlock ≠ some b) ∧ b < w.heap.size) w' A c st.s := h6.keep hg.size fun b hb hp => hg.block b hb (fun e => hp.1.2 e.symm)
    refine h7.mono fun b _ hp => ⟨hp.1.1, ?_⟩
    rcases hat with hat | hat
    · rw [hat]; exact hp.1.2
    · rw [hat]; intro e; injection e with e; omega
  · rcases hat with hat | hat
    · rw [hat]; exact h5
    · rw [hat]; intro e; injection e with e; omega
end Go.Proofs.Ytghciaaedjomjaa
