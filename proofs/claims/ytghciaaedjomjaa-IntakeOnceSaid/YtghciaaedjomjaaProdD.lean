/- slices.Insert of one producer into a row of the call's own that is full. -/
import Derived.Test.YtghciaaedjomjaaProdC
namespace Go.Proofs.Ytghciaaedjomjaa
open Go.RowKit

theorem flat_drop {α : Type} {k : Nat} {enc : α → List Value} (hk : ∀ x, (enc x).length = k) (l : List α) : ∀ m, (l.flatMap enc).drop (m * k) = (l.drop m).flatMap enc := by
  induction l with
  | nil => simp
  | cons x l ih =>
    intro m
    cases m with
    | zero => simp
    | succ m =>
      rw [List.flatMap_cons, List.drop_append, hk, List.drop_of_length_le (by rw [hk, Nat.add_mul]; omega), show (m + 1) * k - k = m * k by rw [Nat.add_mul]; omega, ih m]
      simp

theorem own_succ {W : World} {base : Nat} {e : TypeId} {size : Nat} {v : Value} {k : Nat} {xs : List Value} (h : W.ownsRow base e size v (k + 1) xs) : ∃ g cap, v = .slice (some ⟨g, 0, none⟩) (k + 1) cap := by
  rcases h.2 with ⟨_, h0⟩ | ⟨g, cap, cur, rfl, _⟩
  · omega
  · exact ⟨g, cap, rfl⟩
/-- What Insert leaves: a row of the call's own. -/
def InsPost (base : Nat) (w : World) (b n i : Nat) (raw : List PRaw) (r : PRaw) (e : Ending) (w' : World) : Prop :=
  ∃ g c, e = .returned (.slice (some ⟨g, 0, none⟩) (n + 1) c) ∧ w'.ownsRow base 59 4 (.slice (some ⟨g, 0, none⟩) (n + 1) c) (n + 1) ((raw.take i ++ r :: raw.drop i).flatMap encP) ∧ w.grownBy w' (some b)

set_option maxHeartbeats 4000000 in
set_option maxRecDepth 100000 in
theorem insert_end (b : Nat) (n : Nat) (raw : List PRaw) (r : PRaw) (q : Nat) (w : World) (base : Nat) (hown : w.ownsRow base 59 4 (.slice (some ⟨b, 0, none⟩) n n) n (raw.flatMap encP)) (hbase : base ≤ w.heap.size) (hn : n ≤ 100000) (hq : SlT 4 encP w (some ⟨q, 0, none⟩) 1 1 [r]) :
    Calls Try.prog 45 #[.slice (some ⟨b, 0, none⟩) n n, .int .i64 n, .slice (some ⟨q, 0, none⟩) 1 1] w (InsPost base w b n n raw r) := by
  have hl := own_len encP_len (by decide) hown
  have HO := Lib.hid hown
  have HQ := Lib.hid hq
  clear hown hq
  have HRAW : Hid (raw.take n ++ r :: raw.drop n = raw ++ [r]) := Lib.hid (by rw [List.take_of_length_le (by omega), List.drop_of_length_le (by omega)])
  go_enter Try.func45, Try.ntmps45
  go_wp2_with (at_builtin; refine wpList_append_sl (k := 4) (enc := encP) _ rfl _ _ 24 rfl base 59 _ 48 Try.underlying24 info_Prd rfl (by decide) encP_len encP_one (.slice (some ⟨b, 0, none⟩) n n) n raw rfl HO.out _ 1 1 [r] rfl HQ.out (by unfold maxLen; omega) (by omega) hbase ?_)
  intro v' w1 hown hgrow hat
  obtain ⟨g, cap, rfl⟩ := own_succ hown
  have HO1 := Lib.hid hown
  have HG1 := Lib.hid hgrow
  clear hown hgrow hat
  go_wp2
  go_ret
  refine ⟨g, cap, rfl, ?_, HG1.out⟩
  rw [HRAW.out]
  simpa using HO1.out

set_option maxHeartbeats 4000000 in
set_option maxRecDepth 100000 in
theorem insert_mid (b : Nat) (n i : Nat) (raw : List PRaw) (r : PRaw) (q : Nat) (w : World) (base : Nat) (hi : i < n) (hown : w.ownsRow base 59 4 (.slice (some ⟨b, 0, none⟩) n n) n (raw.flatMap encP)) (hbase : base ≤ w.heap.size) (hn : n ≤ 100000) (hq : SlT 4 encP w (some ⟨q, 0, none⟩) 1 1 [r]) :
    Calls Try.prog 45 #[.slice (some ⟨b, 0, none⟩) n n, .int .i64 i, .slice (some ⟨q, 0, none⟩) 1 1] w (InsPost base w b n i raw r) := by
  have hl := own_len encP_len (by decide) hown
  have HO := Lib.hid hown
  have HQ := Lib.hid hq
  clear hown hq
  have hbw := (HO.out.lt b rfl).2
  obtain ⟨i0, hi0, hzz⟩ := Option.map_eq_some_iff.1 info_Prd
  simp only [Prod.mk.injEq] at hzz
  obtain ⟨hz0, hz1, hz2⟩ := hzz
  have hinfo4 : (Try.prog.info? 59).map (·.size) = some 4 := by rw [hi0]; simp [hz1]
  have hcell : ∀ j v, (raw.flatMap encP)[j]? = some v → w.cell? ⟨b, j, none⟩ = some v := fun j v hv => by
    have := HO.out.cells (g := b) rfl j v hv
    rwa [Addr.add_lit, Nat.zero_add] at this
  have hold : (Builtin.firstCells i0.size i (.slice (some ⟨b, 0, none⟩) i n)).run Try.prog w.drew = .ok ((raw.take i).flatMap encP).toArray w.drew := by
    rw [hz1]
    exact run_firstCells_some w.drew 4 i ⟨b, 0, none⟩ i n ((raw.take i).flatMap encP) (by rw [flat_len encP_len, List.length_take]; omega) (fun j v hj => by
      rw [Addr.add_lit, Nat.zero_add]
      refine hcell j v ?_
      rw [← flat_take encP_len, List.getElem?_take] at hj
      split at hj
      · exact hj
      · cases hj)
  obtain ⟨G, hG⟩ : ∃ G, G = grownCap w (n + 1) n 59 := ⟨_, rfl⟩
  obtain ⟨ROW, hROW⟩ : ∃ ROW : Array Value, ROW = ((raw.take i).flatMap encP).toArray ++ Builtin.zeroCells (Value.agg #[.int .i64 0, .int .i64 0, .int .i64 0, .slice none 0 0]).cells (n + 1 - i) ++ Builtin.zeroCells (Value.agg #[.int .i64 0, .int .i64 0, .int .i64 0, .slice none 0 0]).cells (G - (n + 1)) := ⟨_, rfl⟩
  have hge : n + 1 ≤ G := by rw [hG]; exact grownCap_ge w (n + 1) n _
  have hle : G ≤ maxLen := by rw [hG]; exact grownCap_le_maxLen w (n + 1) n _ (by unfold maxLen; omega)
  have hrz : ∀ ty, (Builtin.append_ #[24, 3] ty #[.slice (some ⟨b, 0, none⟩) i n, .int .i64 ((n : Int) + 1 - (i : Int))]).run Try.prog w = .ok (.slice (some ⟨w.heap.size, 0, none⟩) (n + 1) G) (w.drew.alloc (.cells ROW 59)) := fun ty => by
    have h := Lib.run_append_grow_zeros w 24 3 ty 59 i0 _ .i64 .i64 Try.underlying24 Try.underlying3 hi0 hz0 (some ⟨b, 0, none⟩) i n ((raw.take i).flatMap encP) hold (n + 1 - i) (by omega) (by omega) (by omega) (by omega) (by rw [hz2]; omega) (by rw [hz2, show i + (n + 1 - i) = n + 1 by omega]; exact growslice_fits (by omega) (by omega))
    rw [show i + (n + 1 - i) = n + 1 by omega, ← hG, ← hROW] at h
    rw [show ((n : Int) + 1 - (i : Int)) = ((n + 1 - i : Nat) : Int) by omega]
    exact h
  have hRs : ROW.size = G * 4 := by
    rw [hROW]
    simp only [Array.size_append, List.size_toArray, flat_len encP_len, List.length_take, size_zeroCells]
    rw [show min i raw.length = i by omega, show (Value.agg #[.int .i64 0, .int .i64 0, .int .i64 0, .slice none 0 0]).cells.size = 4 from rfl]
    omega
  have hRt : ROW.toList.take (i * 4) = (raw.take i).flatMap encP := by
    rw [hROW]
    simp only [Array.toList_append]
    rw [List.append_assoc, List.take_append, List.take_of_length_le (by rw [flat_len encP_len, List.length_take]; omega)]
    rw [show i * 4 - (List.flatMap encP (List.take i raw)).length = 0 by rw [flat_len encP_len, List.length_take]; omega]
    simp
  clear hROW hold hi0 hz0 hz1 hz2 hG
  have hown1 : (w.drew.alloc (.cells ROW 59)).ownsRow base 59 4 (.slice (some ⟨w.heap.size, 0, none⟩) (n + 1) G) (n + 1) (ROW.toList.take ((n + 1) * 4)) :=
    ⟨by rw [List.length_take, Array.length_toList, hRs]; omega, .inr ⟨w.heap.size, G, ROW, rfl, hbase, heap_alloc_new w.drew _, hge, hle, hRs, rfl⟩⟩
  have HO1 := Lib.hid hown1
  clear hown1
  have hwne : b ≠ w.heap.size := by omega
  have hqw : q < w.heap.size := by
    obtain ⟨b', off', e, hb', _⟩ := HQ.out.2.2 (by omega)
    injection e with e
    injection e with e1 e2
    omega
  obtain ⟨W1, hW1⟩ : ∃ W1, W1 = (w.alloc (.cells ROW 59)).drew := ⟨_, rfl⟩
  have HOW1 : Hid (W1.ownsRow base 59 4 (.slice (some ⟨w.heap.size, 0, none⟩) (n + 1) G) (n + 1) (ROW.toList.take ((n + 1) * 4))) := Lib.hid (by rw [hW1]; exact HO1.out)
  have hl1 : (ROW.toList.take ((n + 1) * 4)).length = (n + 1) * 4 := HOW1.out.1
  have hth1 := own_there HOW1.out (i * 4) 4 (by omega)
  have HQ1 : Hid (SlT 4 encP W1 (some ⟨q, 0, none⟩) 1 1 [r]) := Lib.hid (by rw [hW1]; exact HQ.out.alloc _)
  have hA : (Builtin.copy_ #[24, 24] 3 #[.slice (some ⟨w.heap.size, i * 4, none⟩) (n + 1 - i) (G - i), .slice (some ⟨q, 0, none⟩) 1 1]).run Try.prog W1 = .ok (goInt 1) (W1.setCells w.heap.size (i * 4) (encP r)) :=
    run_copy_k W1 _ _ _ _ w.heap.size (i * 4) (n + 1 - i) (G - i) ⟨q, 0, none⟩ 1 1 (encP r) 4 1 Try.underlying24 hinfo4 (by simp only [Nat.min_def]; split <;> omega) rfl
      (fun j v hv => src_cells encP_len (by decide) HQ1.out j v (by simpa using hv)) (fun j hj => (hth1 j hj).1) (fun j hj => (hth1 j hj).2) (encP_one r)
  obtain ⟨q1, q2⟩ := own_setCells (encP r) (i * 4) W1 _ HOW1.out (by rw [hl1, encP_len]; omega)
  obtain ⟨W2, hW2⟩ : ∃ W2, W2 = (W1.setCells w.heap.size (i * 4) (encP r)).drew := ⟨_, rfl⟩
  have HOW2 : Hid (W2.ownsRow base 59 4 (.slice (some ⟨w.heap.size, 0, none⟩) (n + 1) G) (n + 1) ((ROW.toList.take ((n + 1) * 4)).take (i * 4) ++ encP r ++ (ROW.toList.take ((n + 1) * 4)).drop (i * 4 + (encP r).length))) := Lib.hid (by rw [hW2]; exact q1)
  have hth2 := own_there HOW2.out ((i + 1) * 4) ((n - i) * 4) (by omega)
  have HB2 : Hid (Below w.heap.size w W2) := Lib.hid (by
    rw [hW2]
    have h1 : Below w.heap.size w W1 := by rw [hW1]; exact ((Below.refl _ w).alloc (Nat.le_refl _) _).drew
    exact (h1.grown q2 h1.size (by intro k hk; injection hk with hk; omega)).drew)
  have HSRC : Hid (SlT 4 encP W2 (some ⟨b, i * 4, none⟩) (n - i) (n - i) (raw.drop i)) := Lib.hid (by
    have h1 : SlT 4 encP w (some ⟨b, 0, none⟩) n n raw := SlT.of_own encP_len HO.out hl
    have h2 := h1.drop (m := i) (by omega)
    rw [Nat.zero_add] at h2
    exact h2.below HB2.out)
  have hdl : ((raw.drop i).flatMap encP).length = (n - i) * 4 := by rw [flat_len encP_len, List.length_drop, hl]
  have hB : ∀ ty, (Builtin.copy_ #[24, 24] ty #[.slice (some ⟨w.heap.size, (i + 1) * 4, none⟩) (n + 1 - (i + 1)) (G - (i + 1)), .slice (some ⟨b, i * 4, none⟩) (n - i) (n - i)]).run Try.prog W2 = .ok (goInt (n - i : Nat)) (W2.setCells w.heap.size ((i + 1) * 4) ((raw.drop i).flatMap encP)) := fun ty =>
    run_copy_k W2 _ _ ty _ w.heap.size ((i + 1) * 4) (n + 1 - (i + 1)) (G - (i + 1)) ⟨b, i * 4, none⟩ (n - i) (n - i) ((raw.drop i).flatMap encP) 4 (n - i) Try.underlying24 hinfo4 (by simp only [Nat.min_def]; split <;> omega) hdl
      (src_cells encP_len (by decide) HSRC.out) (fun j hj => (hth2 j (by omega)).1) (fun j hj => (hth2 j (by omega)).2) (fun v hv => by
        obtain ⟨x, _, hx⟩ := List.mem_flatMap.1 hv
        exact encP_one x v hx)
  obtain ⟨q3, q4⟩ := own_setCells ((raw.drop i).flatMap encP) ((i + 1) * 4) W2 _ HOW2.out (by rw [HOW2.out.1, hdl]; omega)
  have HFIN : Hid ((W2.setCells w.heap.size ((i + 1) * 4) ((raw.drop i).flatMap encP)).ownsRow base 59 4 (.slice (some ⟨w.heap.size, 0, none⟩) (n + 1) G) (n + 1) ((raw.take i ++ r :: raw.drop i).flatMap encP)) := Lib.hid (by
    have e1 : (ROW.toList.take ((n + 1) * 4)).take (i * 4) = (raw.take i).flatMap encP := by
      rw [List.take_take, Nat.min_eq_left (by omega), hRt]
    have e2 : ((raw.take i).flatMap encP).length = i * 4 := by rw [flat_len encP_len, List.length_take]; omega
    have h3 := q3
    rw [e1] at h3
    rw [show (raw.take i ++ r :: raw.drop i).flatMap encP = (raw.take i).flatMap encP ++ encP r ++ (raw.drop i).flatMap encP by simp [List.flatMap_append]]
    have hlen := HOW2.out.1
    rw [e1] at hlen
    have e3 : (((raw.take i).flatMap encP ++ encP r ++ (ROW.toList.take ((n + 1) * 4)).drop (i * 4 + (encP r).length)).take ((i + 1) * 4)) = (raw.take i).flatMap encP ++ encP r := by
      rw [List.take_append_of_le_length (by rw [List.length_append, e2, encP_len]; omega), List.take_of_length_le (by rw [List.length_append, e2, encP_len]; omega)]
    have e4 : (((raw.take i).flatMap encP ++ encP r ++ (ROW.toList.take ((n + 1) * 4)).drop (i * 4 + (encP r).length)).drop ((i + 1) * 4 + ((raw.drop i).flatMap encP).length)) = [] := List.drop_of_length_le (by rw [hlen, hdl]; omega)
    rw [e3, e4, List.append_nil] at h3
    exact h3)
  have HGRO : Hid (w.grownBy (W2.setCells w.heap.size ((i + 1) * 4) ((raw.drop i).flatMap encP)) (some b)) := Lib.hid (only_of_below (HB2.out.grown q4 HB2.out.size (by intro k hk; injection hk with hk; omega)) _)
  clear q1 q2 q3 q4 hth1 hth2 hdl hl1 hRt hRs hinfo4 hcell
  have hGi : (i : Int) ≤ (G : Int) := by omega
  have hGi1 : (i : Int) + 1 ≤ (G : Int) := by omega
  have hiz : ¬ ((i : Int) = (n : Int)) := by omega
  have hGm : G ≤ 9223372036854775807 := by unfold maxLen at hle; omega
  subst hW1 hW2
  go_enter Try.func45, Try.ntmps45
  go_wp2_with (at_builtin; refine Lib.wpList_append_run _ rfl _ _ _ _ rfl _ _ rfl rfl _ _ (hrz _) ?_)
  have hw1 : IntKind.i64.wrap ((i : Int) + 1) = (i : Int) + 1 := by rw [IntKind.wrap_i64]; omega
  have htn : ((i : Int) + 1).toNat = i + 1 := by omega
  have hb0 : (0 : Int) ≤ (i : Int) + 1 := by omega
  have hb1 : (i : Int) + 1 ≤ (n : Int) + 1 := by omega
  have hin : i ≤ n := by omega
  have hci : ¬ (n = i) := by omega
  have hGi2 : ¬ (G = i) := by omega
  have hGim : ¬ (G = i + 1) := by omega
  have hik : i + 1 ≤ G := by omega
  have hik2 : i + 1 ≤ n + 1 := by omega
  have mixed : Try.prog.follows .mixedOrders = true := by kernel_rfl
  go_region_law_o (refine step_copy_runI rfl _ _ 24 24 rfl (.slice (some ⟨w.heap.size, (i + 1) * 4, none⟩) (n + 1 - (i + 1)) (G - (i + 1))) (.slice (some ⟨b, i * 4, none⟩) (n - i) (n - i)) (by simp [Act.eval, Act.put]) (by simp [Act.eval, Act.put]) (hB _) ?_)
  go_wp2
  go_ret
  exact ⟨_, G, rfl, HFIN.out, HGRO.out⟩
end Go.Proofs.Ytghciaaedjomjaa
