/- intake: a partition in memory; what only reads it. -/
import Derived.Test.YtghciaaedjomjaaItkF
import Derived.Maps.Views
namespace Go.Proofs.Ytghciaaedjomjaa
open Go.RowKit Go.Maps

/-! ### Counts -/
def kI (t : Int) : Lit := .int .i64 t
def wf64 (t : Int) : Prop := -9223372036854775808 ≤ t ∧ t ≤ 9223372036854775807
theorem wf_of {t : Int} (h : wf64 t) : (Lit.int .i64 t).wf = true := by
  obtain ⟨a, b⟩ := h
  have h1 : IntKind.i64.min = -9223372036854775808 := by decide
  have h2 : IntKind.i64.max = 9223372036854775807 := by decide
  simp only [Lit.wf, h1, h2, Bool.and_eq_true, decide_eq_true_eq]
  exact ⟨a, b⟩
theorem key_law : Keyed Try.prog 3 := int_keyed Try.underlying3
theorem key_of {t : Int} (h : wf64 t) : keyOf Try.prog 3 (.int .i64 t) = some (.int .i64 t) := keyOf_int_mk Try.underlying3 (wf_of h)
def MapC (w : World) (b n : Nat) (cnt : Int → Int) : Prop :=
  ∃ D : DataW Unit, w.ownsMap Try.prog 3 (plainElem Try.prog 3) b n D ∧ ∀ t : Int, wf64 t → D.atKey (.int .i64 t) (.lit (.int .i64 0)) = .lit (.int .i64 (cnt t))
section
variable {w w' : World} {b n : Nat} {cnt : Int → Int}
theorem MapC.lt (h : MapC w b n cnt) : b < w.heap.size := by obtain ⟨D, h, _⟩ := h; exact h.lt
theorem MapC.kept {row : Option Nat} (h : MapC w b n cnt) (hg : w.grownBy w' row) (hne : some b ≠ row) : MapC w' b n cnt := by obtain ⟨D, h, hc⟩ := h; exact ⟨D, h.kept hg hne, hc⟩
theorem MapC.below {B : Nat} (h : MapC w b n cnt) (hb : Below B w w') (hB : b < B) : MapC w' b n cnt := by
  obtain ⟨D, ⟨es, clock, h1, h2⟩, hc⟩ := h
  exact ⟨D, ⟨es, clock, (hb.block b hB).trans h1, h2⟩, hc⟩
theorem MapC.block (h : MapC w b n cnt) (hb : w'.heap[b]? = w.heap[b]?) : MapC w' b n cnt := by
  obtain ⟨D, ⟨es, clock, h1, h2⟩, hc⟩ := h
  exact ⟨D, ⟨es, clock, hb.trans h1, h2⟩, hc⟩
theorem MapC.mono {m : Nat} (h : MapC w b n cnt) (hm : n ≤ m) : MapC w b m cnt := by obtain ⟨D, h, hc⟩ := h; exact ⟨D, h.mono hm, hc⟩
theorem zero_int (w : World) : (zeroValue 3).run Try.prog w = .ok (.int .i64 0) w := by kernel_rfl
theorem MapC.lookup (h : MapC w b n cnt) {t : Int} (ht : wf64 t) : (Instr.lookup 67 (.map (some b)) (.int .i64 t) false).run Try.prog w = .ok (.int .i64 (cnt t)) w := by
  obtain ⟨D, h, hc⟩ := h
  obtain ⟨c, hrun, hat, _⟩ := h.lookup_int key_law Try.underlying67 Try.underlying3 (zero_int w) (key_of ht)
  rw [hc t ht] at hat
  have e : cnt t = c := (Lit.int.inj (DataW.lit.inj hat)).2
  rw [e]
  exact hrun
theorem MapC.update (h : MapC w b n cnt) (hn : n < maxLen) {t v : Int} (ht : wf64 t) (hv : wf64 v) : ∃ w', (Instr.mapUpdate 67 (.map (some b)) (.int .i64 t) (.int .i64 v)).run Try.prog w = .ok () w' ∧ MapC w' b (n + 1) (fun x => if x = t then v else cnt x) ∧ w.grownBy w' (some b) := by
  obtain ⟨D, h, hc⟩ := h
  obtain ⟨w', hrun, h1, h2⟩ := h.update key_law Try.underlying67 hn (key_of ht) (plainElem_int Try.underlying3 (wf_of hv))
  have hD : IsMap D := by obtain ⟨es, clock, _, _, _, e⟩ := h; exact ⟨_, e⟩
  refine ⟨w', hrun, ⟨_, h1, fun x hx => ?_⟩, h2⟩
  by_cases e : x = t
  · subst e
    simp only [if_true]
    exact atKey_put_same hD (by exact key_law.key (key_of hx)) _ _
  · simp only [if_neg e]
    rw [atKey_put_other (by intro c; injection c with _ c; exact e c), hc x hx]
theorem MapC.made (w : World) : MapC (w.alloc (.map #[] 0)) w.heap.size 0 (fun _ => 0) := ⟨_, World.ownsMap_made w _ _ _, fun _ _ => rfl⟩
end

/-! ### A partition -/
def encCfg (c : Cfg) : List Value := [.int .i64 c.parts, .int .i64 c.delay, .int .i64 c.late, .int .i64 c.ahead, .int .i64 c.rate, .int .i64 c.span]
def itkCells (c : Cfg) (st : ISt) (mb : Nat) (kn : Nat) (ka : Option Addr) (kc : Nat) (pa : Option Addr) (pc : Nat) : Array Value :=
  #[.int .i64 c.parts, .int .i64 c.delay, .int .i64 c.late, .int .i64 c.ahead, .int .i64 c.rate, .int .i64 c.span, .slice ka kn kc, .int .i64 st.now, .int .i64 st.top, .int .i64 (st.next : Int), .int .i64 (st.refused : Int), .slice pa st.tab.length pc, .map (some mb)]
def notPM (G : Nat → Prop) (p mb : Nat) (b : Nat) : Prop := b ≠ p ∧ b ≠ mb ∧ G b
def IX (G : Nat → Prop) (w : World) (p mb : Nat) (c : Cfg) (ks : List KnV) (st : ISt) : Prop :=
  ∃ ka kc pa pc, Blk w p 69 (itkCells c st mb ks.length ka kc pa pc) ∧ KnAt (notPM G p mb) w ka kc ks ∧ TabP (notPM G p mb) w pa pc st.tab ∧ MapC w mb st.next st.cnt ∧ p ≠ mb
/-- Only p, mb, and what is new, has turned. -/
structure Two (p mb : Nat) (w w' : World) : Prop where
  os : w'.os = w.os
  tape : w'.tape = w.tape
  output : w'.output = w.output
  size : w.heap.size ≤ w'.heap.size
  block : ∀ i, i < w.heap.size → i ≠ p → i ≠ mb → w'.heap[i]? = w.heap[i]?
section
variable {G : Nat → Prop} {p mb : Nat} {w w' w'' : World}
theorem Two.of_below (h : Below w.heap.size w w') : Two p mb w w' := ⟨h.os, h.tape, h.output, h.size, fun i hi _ _ => h.block i hi⟩
theorem Two.trans (h : Two p mb w w') (k : Two p mb w' w'') : Two p mb w w'' := ⟨k.os.trans h.os, k.tape.trans h.tape, k.output.trans h.output, Nat.le_trans h.size k.size, fun i hi h1 h2 => (k.block i (Nat.lt_of_lt_of_le hi h.size) h1 h2).trans (h.block i hi h1 h2)⟩
theorem Two.refl (p mb : Nat) (w : World) : Two p mb w w := Two.of_below (Below.refl _ _)
theorem Two.below {B : Nat} (h : Two p mb w w') (hB : B ≤ w.heap.size) (hp : B ≤ p) (hm : B ≤ mb) : Below B w w' := ⟨h.os, h.tape, h.output, h.size, fun i hi => h.block i (by omega) (by omega) (by omega)⟩
theorem Two.set_ (h : Two p mb w w') (i : Nat) (u : Value) : Two p mb w (w'.setCell ⟨p, i, none⟩ u) := ⟨h.os, h.tape, h.output, by simpa [World.setCell] using h.size, fun j hj h1 h2 => (Below.heap_setCell w' ⟨p, i, none⟩ u j h1).trans (h.block j hj h1 h2)⟩
theorem Two.grown (h : Two p mb w w') (hg : w'.grownBy w'' (some mb)) : Two p mb w w'' := ⟨hg.os.trans h.os, hg.tape.trans h.tape, hg.output.trans h.output, Nat.le_trans h.size hg.size, fun i hi h1 h2 => (hg.block i (Nat.lt_of_lt_of_le hi h.size) (by intro e; injection e with e; exact h2 e)).trans (h.block i hi h1 h2)⟩
theorem Two.cell (h : Two p mb w w') {b : Nat} (hb : b < w.heap.size) (h1 : b ≠ p) (h2 : b ≠ mb) (o : Nat) : w'.cell? ⟨b, o, none⟩ = w.cell? ⟨b, o, none⟩ := World.cell?_of_block (a := ⟨b, o, none⟩) (h.block b hb h1 h2)
variable {c : Cfg} {ks : List KnV} {st : ISt}
theorem IX.lt (h : IX G w p mb c ks st) : p < w.heap.size ∧ mb < w.heap.size ∧ p ≠ mb := by
  obtain ⟨ka, kc, pa, pc, h1, h2, h3, h4, h5⟩ := h
  exact ⟨h1.lt, h4.lt, h5⟩
theorem IX.keep (h : IX G w p mb c ks st) (hs : w.heap.size ≤ w'.heap.size) (hb : ∀ b, b < w.heap.size → w'.heap[b]? = w.heap[b]?) : IX G w' p mb c ks st := by
  obtain ⟨ka, kc, pa, pc, h1, h2, h3, h4, h5⟩ := h
  exact ⟨ka, kc, pa, pc, (hb p h1.lt).trans h1, h2.keep hs fun b hb' _ => hb b hb', h3.keep hs fun b hb' _ => hb b hb', h4.block (hb mb h4.lt), h5⟩
theorem IX.below (h : IX G w p mb c ks st) (hb : Below w.heap.size w w') : IX G w' p mb c ks st := h.keep hb.size hb.block
theorem IX.drew (h : IX G w p mb c ks st) : IX G w.drew p mb c ks st := h
theorem IX.alloc (h : IX G w p mb c ks st) (o : Obj) : IX G (w.alloc o) p mb c ks st := h.below ((Below.refl _ w).alloc (Nat.le_refl _) o)
theorem IX.mono {G' : Nat → Prop} (h : IX G w p mb c ks st) (hg : ∀ b, b < w.heap.size → G b → G' b) : IX G' w p mb c ks st := by
  obtain ⟨ka, kc, pa, pc, h1, h2, h3, h4, h5⟩ := h
  exact ⟨ka, kc, pa, pc, h1, h2.mono fun b hb hp => ⟨hp.1, hp.2.1, hg b hb hp.2.2⟩, h3.mono fun b hb hp => ⟨hp.1, hp.2.1, hg b hb hp.2.2⟩, h4, h5⟩
/-- The fields. -/
theorem IX.cells (h : IX G w p mb c ks st) : ∃ ka kc pa pc, w.cell? ⟨p, 0, none⟩ = some (.int .i64 c.parts) ∧ w.cell? ⟨p, 1, none⟩ = some (.int .i64 c.delay) ∧ w.cell? ⟨p, 2, none⟩ = some (.int .i64 c.late) ∧ w.cell? ⟨p, 3, none⟩ = some (.int .i64 c.ahead) ∧ w.cell? ⟨p, 4, none⟩ = some (.int .i64 c.rate) ∧ w.cell? ⟨p, 5, none⟩ = some (.int .i64 c.span) ∧
    w.cell? ⟨p, 6, none⟩ = some (.slice ka ks.length kc) ∧ w.cell? ⟨p, 7, none⟩ = some (.int .i64 st.now) ∧ w.cell? ⟨p, 8, none⟩ = some (.int .i64 st.top) ∧ w.cell? ⟨p, 9, none⟩ = some (.int .i64 (st.next : Int)) ∧ w.cell? ⟨p, 10, none⟩ = some (.int .i64 (st.refused : Int)) ∧ w.cell? ⟨p, 11, none⟩ = some (.slice pa st.tab.length pc) ∧ w.cell? ⟨p, 12, none⟩ = some (.map (some mb)) ∧
    KnAt (notPM G p mb) w ka kc ks ∧ TabP (notPM G p mb) w pa pc st.tab ∧ ∀ i, w.frozen? ⟨p, i, none⟩ = false := by
  obtain ⟨ka, kc, pa, pc, h1, h2, h3, h4, h5⟩ := h
  exact ⟨ka, kc, pa, pc, h1.cell 0, h1.cell 1, h1.cell 2, h1.cell 3, h1.cell 4, h1.cell 5, h1.cell 6, h1.cell 7, h1.cell 8, h1.cell 9, h1.cell 10, h1.cell 11, h1.cell 12, h2, h3, h1.frozen⟩
theorem keep_set {Q : Nat → Prop} (hQ : ∀ b, Q b → b ≠ p) (i : Nat) (u : Value) : ∀ b, b < w.heap.size → Q b → (w.setCell ⟨p, i, none⟩ u).heap[b]? = w.heap[b]? := fun b _ hb => Below.heap_setCell w ⟨p, i, none⟩ u b (hQ b hb)
/-- A field is written. -/
theorem IX.set_ (h : IX G w p mb c ks st) {st' : ISt} (i : Nat) (u : Value) (h0 : ∀ ka kc pa pc, (itkCells c st mb ks.length ka kc pa pc).setIfInBounds i u = itkCells c st' mb ks.length ka kc pa pc) (h1 : st'.tab = st.tab) (h2 : st'.next = st.next) (h3 : st'.cnt = st.cnt) : IX G (w.setCell ⟨p, i, none⟩ u) p mb c ks st' := by
  obtain ⟨ka, kc, pa, pc, q1, q2, q3, q4, q5⟩ := h
  refine ⟨ka, kc, pa, pc, (h0 ka kc pa pc) ▸ q1.set_ i u, q2.keep (by simp [World.setCell]) (keep_set (fun b hb => hb.1) i u), ?_, ?_, q5⟩
  · rw [h1]; exact q3.keep (by simp [World.setCell]) (keep_set (fun b hb => hb.1) i u)
  · rw [h2, h3]; exact q4.block (Below.heap_setCell w ⟨p, i, none⟩ u mb q5.symm)
theorem IX.setNow (h : IX G w p mb c ks st) (v : Int) : IX G (w.setCell ⟨p, 7, none⟩ (.int .i64 v)) p mb c ks { st with now := v } := h.set_ 7 _ (fun _ _ _ _ => rfl) rfl rfl rfl
theorem IX.setTop (h : IX G w p mb c ks st) (v : Int) : IX G (w.setCell ⟨p, 8, none⟩ (.int .i64 v)) p mb c ks { st with top := v } := h.set_ 8 _ (fun _ _ _ _ => rfl) rfl rfl rfl
theorem IX.setRefused (h : IX G w p mb c ks st) (v : Nat) : IX G (w.setCell ⟨p, 10, none⟩ (.int .i64 (v : Int))) p mb c ks { st with refused := v } := h.set_ 10 _ (fun _ _ _ _ => rfl) rfl rfl rfl
theorem IX.setNext (h : IX G w p mb c ks st) : IX G (w.setCell ⟨p, 9, none⟩ (.int .i64 ((st.next : Int) + 1))) p mb c ks { st with next := st.next + 1 } := by
  obtain ⟨ka, kc, pa, pc, q1, q2, q3, q4, q5⟩ := h
  refine ⟨ka, kc, pa, pc, ?_, q2.keep (by simp [World.setCell]) (keep_set (fun b hb => hb.1) _ _), q3.keep (by simp [World.setCell]) (keep_set (fun b hb => hb.1) _ _), (q4.mono (Nat.le_succ _)).block (Below.heap_setCell w ⟨p, 9, none⟩ _ mb q5.symm), q5⟩
  have := q1.set_ 9 (.int .i64 ((st.next : Int) + 1))
  simpa [itkCells] using this
theorem IX.setTab (h : IX G w p mb c ks st) {A : Option Addr} {cc : Nat} {s' : List Prd} {Q : Nat → Prop} (ht : TabP Q w A cc s') (hQ : ∀ b, b < w.heap.size → Q b → notPM G p mb b) : IX G (w.setCell ⟨p, 11, none⟩ (.slice A s'.length cc)) p mb c ks { st with tab := s' } := by
  obtain ⟨ka, kc, pa, pc, q1, q2, q3, q4, q5⟩ := h
  exact ⟨ka, kc, A, cc, q1.set_ 11 _, q2.keep (by simp [World.setCell]) (keep_set (fun b hb => hb.1) _ _), (ht.mono hQ).keep (by simp [World.setCell]) (keep_set (fun b hb => hb.1) _ _), q4.block (Below.heap_setCell w ⟨p, 11, none⟩ _ mb q5.symm), q5⟩
/-- The counts turn. -/
theorem IX.setMap (h : IX G w p mb c ks st) {cnt : Int → Int} (hm : MapC w' mb st.next cnt) (hg : w.grownBy w' (some mb)) : IX G w' p mb c ks { st with cnt := cnt } := by
  obtain ⟨ka, kc, pa, pc, q1, q2, q3, q4, q5⟩ := h
  exact ⟨ka, kc, pa, pc, q1.grown hg (by intro e; injection e with e; exact q5 e), q2.keep hg.size fun b hlt hb => hg.block b hlt (by intro e; injection e with e; exact hb.2.1 e), q3.keep hg.size fun b hlt hb => hg.block b hlt (by intro e; injection e with e; exact hb.2.1 e), hm, q5⟩
theorem IX.mapc (h : IX G w p mb c ks st) : MapC w mb st.next st.cnt := by obtain ⟨ka, kc, pa, pc, q1, q2, q3, q4, q5⟩ := h; exact q4
end

/-! ### What only reads -/
def betw (n a b : Int) : Bool := decide (a ≤ n ∧ n ≤ b)
theorem between_any (n a b : Int) (w : World) : Calls Try.prog 37 #[.int .i64 n, .int .i64 a, .int .i64 b] w fun e w' => e = .returned (.bool (betw n a b)) ∧ w' = w := by
  by_cases h1 : a ≤ n
  · by_cases h2 : n ≤ b
    · go_enter Try.func37, Try.ntmps37
      go_wp2
      go_ret
      exact ⟨by simp [betw, h1, h2], rfl⟩
    · go_enter Try.func37, Try.ntmps37
      go_wp2
      go_ret
      exact ⟨by simp [betw, h2]; try omega, rfl⟩
  · go_enter Try.func37, Try.ntmps37
    go_wp2
    go_ret
    exact ⟨ret_bool (by unfold betw; rw [decide_eq_false (by omega)]), rfl⟩
theorem isTime_any (n : Int) (w : World) : Calls Try.prog 39 #[.int .i64 n] w fun e w' => e = .returned (.bool (inB n)) ∧ w' = w := by
  go_enter Try.func39, Try.ntmps39
  go_wp2_with fail
  refine (between_any _ _ _ _).mono ?_
  rintro e w' ⟨rfl, rfl⟩
  go_wp2
  go_ret
  exact ⟨rfl, rfl⟩
def rightB (c : Cfg) : Bool := betw c.late 0 10000 && (betw c.delay 0 c.late && (betw c.ahead 0 10000 && betw c.rate 1 20))
theorem rightB_yes {c : Cfg} (h : rightB c = true) : RightC c := by
  simp only [rightB, betw, Bool.and_eq_true, decide_eq_true_eq] at h
  exact ⟨h.1, h.2.1, h.2.2.1, h.2.2.2⟩
theorem rightI_any (c : Cfg) (w : World) : Calls Try.prog 19 #[.agg #[.int .i64 c.parts, .int .i64 c.delay, .int .i64 c.late, .int .i64 c.ahead, .int .i64 c.rate, .int .i64 c.span]] w fun e w' => e = .returned (.bool (rightB c)) ∧ Below w.heap.size w w' := by
  obtain ⟨c0, c1, c2, c3, c4, c5⟩ := c
  have HB : Hid (Below w.heap.size w (w.alloc (.cells #[.int .i64 c0, .int .i64 c1, .int .i64 c2, .int .i64 c3, .int .i64 c4, .int .i64 c5] 45))) := Lib.hid ((Below.refl _ w).alloc (Nat.le_refl _) _)
  unfold rightB
  go_enter Try.func19, Try.ntmps19
  go_wp2_with fail
  refine (between_any _ _ _ _).mono ?_
  rintro e w' ⟨rfl, rfl⟩
  cases h1 : betw c2 0 10000 with
  | false =>
    go_wp2_with fail
    go_ret
    exact ⟨ret_bool (by simp [h1]), HB.out⟩
  | true =>
    go_wp2_with fail
    refine (between_any _ _ _ _).mono ?_
    rintro e w' ⟨rfl, rfl⟩
    cases h2 : betw c1 0 c2 with
    | false =>
      go_wp2_with fail
      go_ret
      exact ⟨ret_bool (by simp [h1, h2]), HB.out⟩
    | true =>
      go_wp2_with fail
      refine (between_any _ _ _ _).mono ?_
      rintro e w' ⟨rfl, rfl⟩
      cases h3 : betw c3 0 10000 with
      | false =>
        go_wp2_with fail
        go_ret
        exact ⟨ret_bool (by simp [h1, h2, h3]), HB.out⟩
      | true =>
        go_wp2_with fail
        refine (between_any _ _ _ _).mono ?_
        rintro e w' ⟨rfl, rfl⟩
        go_wp2
        go_ret
        exact ⟨ret_bool (by simp [h1, h2, h3]), HB.out⟩
def RdPost (w : World) (v : Int) (e : Ending) (w' : World) : Prop := e = .returned (.int .i64 v) ∧ Below w.heap.size w w'
section
variable {G : Nat → Prop} {p mb : Nat} {c : Cfg} {ks : List KnV} {st : ISt} {w : World}
theorem now_any (h : IX G w p mb c ks st) : Calls Try.prog 25 #[.pointer (some ⟨p, 0, none⟩)] w (RdPost w st.now) := by
  obtain ⟨ka, kc, pa, pc, q0, q1, q2, q3, q4, q5, q6, q7, q8, q9, q10, q11, q12, _, _, hf⟩ := h.cells
  clear h
  go_enter Try.func25, Try.ntmps25
  go_wp2
  go_ret
  exact ⟨rfl, Below.refl _ _⟩
theorem top_any (h : IX G w p mb c ks st) : Calls Try.prog 24 #[.pointer (some ⟨p, 0, none⟩)] w (RdPost w st.top) := by
  obtain ⟨ka, kc, pa, pc, q0, q1, q2, q3, q4, q5, q6, q7, q8, q9, q10, q11, q12, _, _, hf⟩ := h.cells
  clear h
  go_enter Try.func24, Try.ntmps24
  go_wp2
  go_ret
  exact ⟨rfl, Below.refl _ _⟩
theorem next_any (h : IX G w p mb c ks st) : Calls Try.prog 21 #[.pointer (some ⟨p, 0, none⟩)] w (RdPost w st.next) := by
  obtain ⟨ka, kc, pa, pc, q0, q1, q2, q3, q4, q5, q6, q7, q8, q9, q10, q11, q12, _, _, hf⟩ := h.cells
  clear h
  go_enter Try.func21, Try.ntmps21
  go_wp2
  go_ret
  exact ⟨rfl, Below.refl _ _⟩
theorem refused_any (h : IX G w p mb c ks st) : Calls Try.prog 35 #[.pointer (some ⟨p, 0, none⟩)] w (RdPost w st.refused) := by
  obtain ⟨ka, kc, pa, pc, q0, q1, q2, q3, q4, q5, q6, q7, q8, q9, q10, q11, q12, _, _, hf⟩ := h.cells
  clear h
  go_enter Try.func35, Try.ntmps35
  go_wp2
  go_ret
  exact ⟨rfl, Below.refl _ _⟩
theorem count_any (h : IX G w p mb c ks st) {t : Int} (ht : wf64 t) : Calls Try.prog 26 #[.pointer (some ⟨p, 0, none⟩), .int .i64 t] w (RdPost w (st.cnt t)) := by
  obtain ⟨ka, kc, pa, pc, q0, q1, q2, q3, q4, q5, q6, q7, q8, q9, q10, q11, q12, _, _, hf⟩ := h.cells
  have hrun := h.mapc.lookup ht
  clear h
  go_enter Try.func26, Try.ntmps26
  go_wp2
  go_ret
  exact ⟨rfl, Below.refl _ _⟩
theorem max_ite (a b : Int) : (if b > a then b else a) = max a b := by omega
set_option maxHeartbeats 1000000 in
theorem closed_any (h : IX G w p mb c ks st) (hl : 0 ≤ c.late ∧ c.late ≤ 10000) (ht : -1 ≤ st.top ∧ st.top ≤ 1099511627776) : Calls Try.prog 22 #[.pointer (some ⟨p, 0, none⟩)] w (RdPost w (closedF c st)) := by
  obtain ⟨ka, kc, pa, pc, q0, q1, q2, q3, q4, q5, q6, q7, q8, q9, q10, q11, q12, _, _, hf⟩ := h.cells
  have hw1 : IntKind.i64.wrap (st.top - c.late) = st.top - c.late := by rw [IntKind.wrap_i64]; omega
  have hw2 : IntKind.i64.wrap (st.top - c.late - 1) = st.top - c.late - 1 := by rw [IntKind.wrap_i64]; omega
  have hM : max (-1) (st.top - c.late - 1) = closedF c st := rfl
  clear h q0 q1 q3 q4 q5 q6 q7 q9 q10 q11 q12
  generalize closedF c st = M at hM ⊢
  go_enter Try.func22, Try.ntmps22
  go_wp2_with fail
  refine wp_region_noPanic ?_
  refine wp_region_held_drew (S := fun w' => w'.cell? ⟨p, 8, none⟩ = some (.int .i64 st.top) ∧ w'.cell? ⟨p, 2, none⟩ = some (.int .i64 c.late)) (by kernel_rfl) ?_ (fun hHeld => ?_)
  · first | exact ⟨by assumption, by assumption⟩ | go_keep
  refine take_yes (i := 0) (some 3) (v := ?vl0) (by simp only [List.getElem?_toArray, List.getElem?_cons_zero]; exact rfl) rfl (by kernel_rfl) (by kernel_rfl) (by kernel_rfl) (fun _ _ _ h => h) (by rfl) ?hyl0 (by assumption) ?restl0
  case hyl0 => (intro w hSw; (try dsimp only at hSw); go_simp; try with_reducible rfl)
  try simp only [Act.put, List.setIfInBounds_toArray, List.set_cons_zero, List.set_cons_succ]
  refine take_yes (i := 1) (some 4) (v := ?vl1) (by simp only [List.getElem?_toArray, List.getElem?_cons_succ, List.getElem?_cons_zero]; exact rfl) rfl (by kernel_rfl) (by kernel_rfl) (by kernel_rfl) (fun _ _ _ h => h) (by rfl) ?hyl1 (by assumption) ?restl1
  case hyl1 => (intro w hSw; (try dsimp only at hSw); go_simp; try with_reducible rfl)
  try simp only [Act.put, List.setIfInBounds_toArray, List.set_cons_zero, List.set_cons_succ]
  refine take_yes (i := 2) (some 5) (v := ?vl2) (by simp only [List.getElem?_toArray, List.getElem?_cons_succ, List.getElem?_cons_zero]; exact rfl) rfl (by kernel_rfl) (by kernel_rfl) (by kernel_rfl) (fun _ _ _ h => h) (by rfl) ?hyl2 (by assumption) ?restl2
  case hyl2 => (intro w hSw; (try dsimp only at hSw); go_simp; try with_reducible rfl)
  try simp only [Act.put, List.setIfInBounds_toArray, List.set_cons_zero, List.set_cons_succ]
  refine take_yes (i := 3) (some 6) (v := ?vl3) (by simp only [List.getElem?_toArray, List.getElem?_cons_succ, List.getElem?_cons_zero]; exact rfl) rfl (by kernel_rfl) (by kernel_rfl) (by kernel_rfl) (fun _ _ _ h => h) (by rfl) ?hyl3 (by assumption) ?restl3
  case hyl3 => (intro w hSw; (try dsimp only at hSw); go_simp; try with_reducible rfl)
  try simp only [Act.put, List.setIfInBounds_toArray, List.set_cons_zero, List.set_cons_succ]
  refine take_yes (i := 4) (some 7) (v := ?vl4) (by simp only [List.getElem?_toArray, List.getElem?_cons_succ, List.getElem?_cons_zero]; exact rfl) rfl (by kernel_rfl) (by kernel_rfl) (by kernel_rfl) (fun _ _ _ h => h) (by rfl) ?hyl4 (by assumption) ?restl4
  case hyl4 => (intro w hSw; (try dsimp only at hSw); go_simp; try with_reducible rfl)
  try simp only [Act.put, List.setIfInBounds_toArray, List.set_cons_zero, List.set_cons_succ]
  refine take_yes (i := 5) (some 8) (v := ?vl5) (by simp only [List.getElem?_toArray, List.getElem?_cons_succ, List.getElem?_cons_zero]; exact rfl) rfl (by kernel_rfl) (by kernel_rfl) (by kernel_rfl) (fun _ _ _ h => h) (by rfl) ?hyl5 (by assumption) ?restl5
  case hyl5 => (intro w hSw; (try dsimp only at hSw); go_simp; try with_reducible rfl)
  try simp only [Act.put, List.setIfInBounds_toArray, List.set_cons_zero, List.set_cons_succ]
  refine take_yes (i := 6) (some 9) (v := ?vl6) (by simp only [List.getElem?_toArray, List.getElem?_cons_succ, List.getElem?_cons_zero]; exact rfl) rfl (by kernel_rfl) (by kernel_rfl) (by kernel_rfl) (fun _ _ _ h => h) (by rfl) ?hyl6 (by assumption) ?restl6
  case hyl6 => (intro w hSw; (try dsimp only at hSw); go_simp; try with_reducible rfl)
  try simp only [Act.put, List.setIfInBounds_toArray, List.set_cons_zero, List.set_cons_succ]
  refine take_yes (i := 7) (some 10) (v := ?vl7) (by simp only [List.getElem?_toArray, List.getElem?_cons_succ, List.getElem?_cons_zero]; exact rfl) rfl (by kernel_rfl) (by kernel_rfl) (by kernel_rfl) (fun _ _ _ h => h) (by rfl) ?hyl7 (by assumption) ?restl7
  case hyl7 => (intro w hSw; (try dsimp only at hSw); go_simp; try with_reducible rfl)
  try simp only [Act.put, List.setIfInBounds_toArray, List.set_cons_zero, List.set_cons_succ]
  refine take_yes (i := 8) (some 11) (v := ?vl8) (by simp only [List.getElem?_toArray, List.getElem?_cons_succ, List.getElem?_cons_zero]; exact rfl) rfl (by kernel_rfl) (by kernel_rfl) (by kernel_rfl) (fun _ _ _ h => h) (by rfl) ?hyl8 (by assumption) ?restl8
  case hyl8 => (intro w hSw; (try dsimp only at hSw); go_simp; try with_reducible rfl)
  try simp only [Act.put, List.setIfInBounds_toArray, List.set_cons_zero, List.set_cons_succ]
  refine take_yes (i := 9) (some 12) (v := ?vl9) (by simp only [List.getElem?_toArray, List.getElem?_cons_succ, List.getElem?_cons_zero]; exact rfl) rfl (by kernel_rfl) (by kernel_rfl) (by kernel_rfl) (fun _ _ _ h => h) (by rfl) ?hyl9 (by assumption) ?restl9
  case hyl9 => (intro w hSw; (try dsimp only at hSw); go_simp; try with_reducible rfl)
  try simp only [Act.put, List.setIfInBounds_toArray, List.set_cons_zero, List.set_cons_succ]
  refine take_yes (i := 10) (some 13) (v := ?vl10) (by simp only [List.getElem?_toArray, List.getElem?_cons_succ, List.getElem?_cons_zero]; exact rfl) rfl (by kernel_rfl) (by kernel_rfl) (by kernel_rfl) (fun _ _ _ h => h) (by rfl) ?hyl10 (by assumption) ?restl10
  case hyl10 => (intro w hSw; (try dsimp only at hSw); go_simp; try with_reducible rfl)
  try simp only [Act.put, List.setIfInBounds_toArray, List.set_cons_zero, List.set_cons_succ]
  refine take_yes (i := 11) (some 14) (v := ?vl11) (by simp only [List.getElem?_toArray, List.getElem?_cons_succ, List.getElem?_cons_zero]; exact rfl) rfl (by kernel_rfl) (by kernel_rfl) (by kernel_rfl) (fun _ _ _ h => h) (by rfl) ?hyl11 (by assumption) ?restl11
  case hyl11 => (intro w hSw; (try dsimp only at hSw); go_simp; try with_reducible rfl)
  try simp only [Act.put, List.setIfInBounds_toArray, List.set_cons_zero, List.set_cons_succ]
  refine take_yes (i := 12) (some 2) (v := ?vl12) (by simp only [List.getElem?_toArray, List.getElem?_cons_succ, List.getElem?_cons_zero]; exact rfl) rfl (by kernel_rfl) (by kernel_rfl) (by kernel_rfl) (fun _ _ _ h => h) (by rfl) ?hyl12 (by assumption) ?restl12
  case hyl12 => (intro w hSw; (try dsimp only at hSw); go_simp; try with_reducible rfl)
  try simp only [Act.put, List.setIfInBounds_toArray, List.set_cons_zero, List.set_cons_succ]
  refine wpAnyH_done (by kernel_rfl) ?_ _
  refine NoPanic.normal ?_
  go_wp2
  go_ret
  exact ⟨rfl, (Below.refl _ w).drew⟩
set_option maxHeartbeats 1000000 in
theorem mark_any (h : IX G w p mb c ks st) (hl : 0 ≤ c.delay ∧ c.delay ≤ 10000) (ht : -1 ≤ st.top ∧ st.top ≤ 1099511627776) : Calls Try.prog 23 #[.pointer (some ⟨p, 0, none⟩)] w (RdPost w (markF c st)) := by
  obtain ⟨ka, kc, pa, pc, q0, q1, q2, q3, q4, q5, q6, q7, q8, q9, q10, q11, q12, _, _, hf⟩ := h.cells
  have hw1 : IntKind.i64.wrap (st.top - c.delay) = st.top - c.delay := by rw [IntKind.wrap_i64]; omega
  have hw2 : IntKind.i64.wrap (st.top - c.delay - 1) = st.top - c.delay - 1 := by rw [IntKind.wrap_i64]; omega
  have hM : max (-1) (st.top - c.delay - 1) = markF c st := rfl
  clear h q0 q2 q3 q4 q5 q6 q7 q9 q10 q11 q12
  generalize markF c st = M at hM ⊢
  go_enter Try.func23, Try.ntmps23
  go_wp2_with fail
  refine wp_region_noPanic ?_
  refine wp_region_held_drew (S := fun w' => w'.cell? ⟨p, 8, none⟩ = some (.int .i64 st.top) ∧ w'.cell? ⟨p, 1, none⟩ = some (.int .i64 c.delay)) (by kernel_rfl) ?_ (fun hHeld => ?_)
  · first | exact ⟨by assumption, by assumption⟩ | go_keep
  refine take_yes (i := 0) (some 3) (v := ?vm0) (by simp only [List.getElem?_toArray, List.getElem?_cons_zero]; exact rfl) rfl (by kernel_rfl) (by kernel_rfl) (by kernel_rfl) (fun _ _ _ h => h) (by rfl) ?hym0 (by assumption) ?restm0
  case hym0 => (intro w hSw; (try dsimp only at hSw); go_simp; try with_reducible rfl)
  try simp only [Act.put, List.setIfInBounds_toArray, List.set_cons_zero, List.set_cons_succ]
  refine take_yes (i := 1) (some 4) (v := ?vm1) (by simp only [List.getElem?_toArray, List.getElem?_cons_succ, List.getElem?_cons_zero]; exact rfl) rfl (by kernel_rfl) (by kernel_rfl) (by kernel_rfl) (fun _ _ _ h => h) (by rfl) ?hym1 (by assumption) ?restm1
  case hym1 => (intro w hSw; (try dsimp only at hSw); go_simp; try with_reducible rfl)
  try simp only [Act.put, List.setIfInBounds_toArray, List.set_cons_zero, List.set_cons_succ]
  refine take_yes (i := 2) (some 5) (v := ?vm2) (by simp only [List.getElem?_toArray, List.getElem?_cons_succ, List.getElem?_cons_zero]; exact rfl) rfl (by kernel_rfl) (by kernel_rfl) (by kernel_rfl) (fun _ _ _ h => h) (by rfl) ?hym2 (by assumption) ?restm2
  case hym2 => (intro w hSw; (try dsimp only at hSw); go_simp; try with_reducible rfl)
  try simp only [Act.put, List.setIfInBounds_toArray, List.set_cons_zero, List.set_cons_succ]
  refine take_yes (i := 3) (some 6) (v := ?vm3) (by simp only [List.getElem?_toArray, List.getElem?_cons_succ, List.getElem?_cons_zero]; exact rfl) rfl (by kernel_rfl) (by kernel_rfl) (by kernel_rfl) (fun _ _ _ h => h) (by rfl) ?hym3 (by assumption) ?restm3
  case hym3 => (intro w hSw; (try dsimp only at hSw); go_simp; try with_reducible rfl)
  try simp only [Act.put, List.setIfInBounds_toArray, List.set_cons_zero, List.set_cons_succ]
  refine take_yes (i := 4) (some 7) (v := ?vm4) (by simp only [List.getElem?_toArray, List.getElem?_cons_succ, List.getElem?_cons_zero]; exact rfl) rfl (by kernel_rfl) (by kernel_rfl) (by kernel_rfl) (fun _ _ _ h => h) (by rfl) ?hym4 (by assumption) ?restm4
  case hym4 => (intro w hSw; (try dsimp only at hSw); go_simp; try with_reducible rfl)
  try simp only [Act.put, List.setIfInBounds_toArray, List.set_cons_zero, List.set_cons_succ]
  refine take_yes (i := 5) (some 8) (v := ?vm5) (by simp only [List.getElem?_toArray, List.getElem?_cons_succ, List.getElem?_cons_zero]; exact rfl) rfl (by kernel_rfl) (by kernel_rfl) (by kernel_rfl) (fun _ _ _ h => h) (by rfl) ?hym5 (by assumption) ?restm5
  case hym5 => (intro w hSw; (try dsimp only at hSw); go_simp; try with_reducible rfl)
  try simp only [Act.put, List.setIfInBounds_toArray, List.set_cons_zero, List.set_cons_succ]
  refine take_yes (i := 6) (some 9) (v := ?vm6) (by simp only [List.getElem?_toArray, List.getElem?_cons_succ, List.getElem?_cons_zero]; exact rfl) rfl (by kernel_rfl) (by kernel_rfl) (by kernel_rfl) (fun _ _ _ h => h) (by rfl) ?hym6 (by assumption) ?restm6
  case hym6 => (intro w hSw; (try dsimp only at hSw); go_simp; try with_reducible rfl)
  try simp only [Act.put, List.setIfInBounds_toArray, List.set_cons_zero, List.set_cons_succ]
  refine take_yes (i := 7) (some 10) (v := ?vm7) (by simp only [List.getElem?_toArray, List.getElem?_cons_succ, List.getElem?_cons_zero]; exact rfl) rfl (by kernel_rfl) (by kernel_rfl) (by kernel_rfl) (fun _ _ _ h => h) (by rfl) ?hym7 (by assumption) ?restm7
  case hym7 => (intro w hSw; (try dsimp only at hSw); go_simp; try with_reducible rfl)
  try simp only [Act.put, List.setIfInBounds_toArray, List.set_cons_zero, List.set_cons_succ]
  refine take_yes (i := 8) (some 11) (v := ?vm8) (by simp only [List.getElem?_toArray, List.getElem?_cons_succ, List.getElem?_cons_zero]; exact rfl) rfl (by kernel_rfl) (by kernel_rfl) (by kernel_rfl) (fun _ _ _ h => h) (by rfl) ?hym8 (by assumption) ?restm8
  case hym8 => (intro w hSw; (try dsimp only at hSw); go_simp; try with_reducible rfl)
  try simp only [Act.put, List.setIfInBounds_toArray, List.set_cons_zero, List.set_cons_succ]
  refine take_yes (i := 9) (some 12) (v := ?vm9) (by simp only [List.getElem?_toArray, List.getElem?_cons_succ, List.getElem?_cons_zero]; exact rfl) rfl (by kernel_rfl) (by kernel_rfl) (by kernel_rfl) (fun _ _ _ h => h) (by rfl) ?hym9 (by assumption) ?restm9
  case hym9 => (intro w hSw; (try dsimp only at hSw); go_simp; try with_reducible rfl)
  try simp only [Act.put, List.setIfInBounds_toArray, List.set_cons_zero, List.set_cons_succ]
  refine take_yes (i := 10) (some 13) (v := ?vm10) (by simp only [List.getElem?_toArray, List.getElem?_cons_succ, List.getElem?_cons_zero]; exact rfl) rfl (by kernel_rfl) (by kernel_rfl) (by kernel_rfl) (fun _ _ _ h => h) (by rfl) ?hym10 (by assumption) ?restm10
  case hym10 => (intro w hSw; (try dsimp only at hSw); go_simp; try with_reducible rfl)
  try simp only [Act.put, List.setIfInBounds_toArray, List.set_cons_zero, List.set_cons_succ]
  refine take_yes (i := 11) (some 14) (v := ?vm11) (by simp only [List.getElem?_toArray, List.getElem?_cons_succ, List.getElem?_cons_zero]; exact rfl) rfl (by kernel_rfl) (by kernel_rfl) (by kernel_rfl) (fun _ _ _ h => h) (by rfl) ?hym11 (by assumption) ?restm11
  case hym11 => (intro w hSw; (try dsimp only at hSw); go_simp; try with_reducible rfl)
  try simp only [Act.put, List.setIfInBounds_toArray, List.set_cons_zero, List.set_cons_succ]
  refine take_yes (i := 12) (some 2) (v := ?vm12) (by simp only [List.getElem?_toArray, List.getElem?_cons_succ, List.getElem?_cons_zero]; exact rfl) rfl (by kernel_rfl) (by kernel_rfl) (by kernel_rfl) (fun _ _ _ h => h) (by rfl) ?hym12 (by assumption) ?restm12
  case hym12 => (intro w hSw; (try dsimp only at hSw); go_simp; try with_reducible rfl)
  try simp only [Act.put, List.setIfInBounds_toArray, List.set_cons_zero, List.set_cons_succ]
  refine wpAnyH_done (by kernel_rfl) ?_ _
  refine NoPanic.normal ?_
  go_wp2
  go_ret
  exact ⟨rfl, (Below.refl _ w).drew⟩
end
end Go.Proofs.Ytghciaaedjomjaa
