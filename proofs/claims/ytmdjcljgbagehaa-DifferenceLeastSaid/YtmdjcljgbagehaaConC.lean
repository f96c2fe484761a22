/- delta: Concat, Add, Sub. -/
import Derived.Test.YtmdjcljgbagehaaConB
import Derived.Shelf.Spec.SlicesGrow
namespace Go.Proofs.Ytmdjcljgbagehaa
open Go.RowKit

def grRen : Go.Shelf.Ren := ⟨fun | 4 => 30 | n => n, fun | 0 => 0 | 3 => 3 | 4 => 4 | 9 => 9 | 20 => 20 | 22 => 22 | 25 => 38 | n => n, fun n => n⟩
theorem layGr : Go.Proofs.Lays8.n4 Try.prog grRen where
  mixed := by kernel_rfl
  f4 := ⟨Try.f30.name, by kernel_rfl, Try.func30.trans (congrArg some (by kernel_rfl))⟩
  t0 := Try.underlying0
  a0 := Try.isAgg0
  z0 := Try.sizeOf0
  v0 := Try.zeroValue0
  t3 := Try.underlying3
  a3 := Try.isAgg3
  z3 := Try.sizeOf3
  v3 := Try.zeroValue3
  t4 := Try.underlying4
  a4 := Try.isAgg4
  z4 := Try.sizeOf4
  v4 := Try.zeroValue4
  t9 := Try.underlying9
  a9 := Try.isAgg9
  z9 := Try.sizeOf9
  v9 := Try.zeroValue9
  t20 := Try.underlying20
  a20 := Try.isAgg20
  z20 := Try.sizeOf20
  v20 := Try.zeroValue20
  t22 := Try.underlying22
  a22 := Try.isAgg22
  z22 := Try.sizeOf22
  v22 := Try.zeroValue22
theorem zeroCells_len (cs : Array Value) (n : Nat) : (Builtin.zeroCells cs n).size = n * cs.size := by
  have : (Builtin.zeroCells cs n).toList.length = n * cs.toList.length := by
    unfold Builtin.zeroCells
    simp
  simpa using this
def GrowPost (w : World) (e : Ending) (w' : World) : Prop := ∃ A c, e = .returned (.slice A 0 c) ∧ w'.ownsRow w.heap.size 38 3 (.slice A 0 c) 0 [] ∧ Below w.heap.size w w'
theorem grow_any (n : Nat) (w : World) (hn : n ≤ 1000000) : Calls Try.prog 30 #[.slice none 0 0, .int .i64 n] w (GrowPost w) := by
  rcases Nat.eq_zero_or_pos n with h0 | h0
  · subst h0
    refine (Any8.slices_Grow_room layGr none 0 0 0 w (by omega) (by omega) (by omega) (by omega)).mono ?_
    rintro e w' ⟨rfl, rfl⟩
    exact ⟨none, 0, rfl, World.ownsRow_nil _ _ _ _, Below.refl _ _⟩
  · obtain ⟨i0, hi0, hz⟩ : ∃ i0, Try.prog.info? 38 = some i0 ∧ (i0.zero, i0.size, i0.bytes) = (some (.agg #[.int .i64 0, .slice none 0 0, .int .i64 0]), 3, 40) := by
      have := info_Del
      cases h : Try.prog.info? 38 with
      | none => rw [h] at this; cases this
      | some i0 => rw [h] at this; exact ⟨i0, rfl, by injection this⟩
    injection hz with hz1 hz2
    injection hz2 with hz2 hz3
    refine (Any8.slices_Grow_grow layGr i0 _ hi0 hz1 (by omega) none 0 0 n [] w (by omega) (by omega) (by rw [hz3]; omega) (by omega) (by simp) (by simp) (by simp)).mono ?_
    rintro e w' ⟨rfl, rfl⟩
    refine ⟨_, _, rfl, ?_, ?_⟩
    · have hc := grownCap_le_maxLen w (0 + n) 0 (grRen.t 25) (by unfold maxLen; omega)
      have hg := grownCap_ge w (0 + n) 0 (grRen.t 25)
      refine World.ownsRow_made w.drew _ _ (Nat.le_refl _) hc ?_
      rw [Array.size_append, Array.size_append, zeroCells_len, zeroCells_len]
      have h3 : (Value.agg #[.int .i64 0, .slice none 0 0, .int .i64 0]).cells.size = 3 := rfl
      rw [h3]
      simp only [Nat.zero_add] at hg ⊢
      simp
      omega
    · exact (Below.refl _ w).drew.alloc (Nat.le_refl _) _

def CatPost (w : World) (l : List Dl) (e : Ending) (w' : World) : Prop := ∃ A c, e = .returned (.slice A l.length c) ∧ w'.ownsRow w.heap.size 38 3 (.slice A l.length c) l.length (l.flatMap encD) ∧ Below w.heap.size w w'
set_option maxHeartbeats 2000000 in
theorem concat_any (g : Nat) (a b : List Dl) (A B : Option Addr) (ca cb : Nat) (w : World) (h0 : w.cell? ⟨g, 0, none⟩ = some (.slice A a.length ca)) (h1 : w.cell? ⟨g, 1, none⟩ = some (.slice B b.length cb)) (ha : SlT 3 encD w A a.length ca a) (hb : SlT 3 encD w B b.length cb b) (hab : a.length + b.length ≤ 1000000) :
    Calls Try.prog 22 #[.slice (some ⟨g, 0, none⟩) 2 2] w (CatPost w (a ++ b)) := by
  have HA := Lib.hid ha
  have HB := Lib.hid hb
  have h0l := World.block_lt_of_cell? w _ h0
  have h1' : w.cell? ⟨g, 0 + 1, none⟩ = some (.slice B b.length cb) := h1
  have s1 : (0 : Int) + (a.length : Int) = (a.length : Int) := by omega
  have s2 : (a.length : Int) + (b.length : Int) = ((a.length + b.length : Nat) : Int) := by push_cast; rfl
  have n1 : ¬ (a.length : Int) < 0 := by omega
  have n2 : ¬ ((a.length + b.length : Nat) : Int) < 0 := by omega
  have hal : a.length ≤ 1000000 := by omega
  have hbl : b.length ≤ 1000000 := by omega
  have HH0 : Hid (∀ w', Below w.heap.size w w' → w'.cell? ⟨g, 0, none⟩ = some (.slice A a.length ca) ∧ w'.cell? ⟨g, 1, none⟩ = some (.slice B b.length cb)) := Lib.hid (fun w' hb => ⟨(World.cell?_of_block (a := ⟨g, 0, none⟩) (hb.block g h0l)).trans h0, (World.cell?_of_block (a := ⟨g, 1, none⟩) (hb.block g h0l)).trans h1⟩)
  clear ha hb
  generalize hna : a.length = na at *
  generalize hnb : b.length = nb at *
  generalize hnc : na + nb = nc at *
  go_enter Try.func22, Try.ntmps22
  go_wp2
  refine wp_loop_rounds 3 ?_
  rw [rounds_succ]
  go_wp2
  rw [rounds_succ]
  go_wp2
  rw [rounds_succ]
  go_wp2_with fail
  refine (grow_any nc _ (by omega)).mono ?_
  rintro e w1 ⟨A1, c1, rfl, hown1, hb1⟩
  have HB1 := Lib.hid hb1
  have HO1 := Lib.hid hown1
  obtain ⟨z0, z1⟩ := HH0.out w1 hb1
  have z1' : w1.cell? ⟨g, 0 + 1, none⟩ = some (.slice B nb cb) := z1
  have hw1 := hb1.size
  clear hown1 hb1 h0 h1 h1'
  go_wp2
  refine wp_loop_rounds 3 ?_
  rw [rounds_succ]
  go_wp2_with (at_builtin; refine wpList_append_sl (k := 3) (enc := encD) _ rfl _ _ 22 rfl w.heap.size 38 _ 40 Try.underlying22 info_Del rfl (by decide) encD_len encD_one _ 0 [] rfl HO1.out A na ca a rfl (HA.out.below HB1.out) (by unfold maxLen; omega) (by omega) hw1 ?_)
  intro v2 w2 hown2 hgrow2 hat2
  obtain ⟨A2, c2, rfl⟩ := own_shape hown2
  have HB2 := Lib.hid (HB1.out.grown hgrow2 HB1.out.size (by intro k hk; exact (HO1.out.lt k hk).1))
  have HO2 := Lib.hid hown2
  obtain ⟨y0, y1⟩ := HH0.out w2 HB2.out
  have y1' : w2.cell? ⟨g, 0 + 1, none⟩ = some (.slice B nb cb) := y1
  have hw2 := HB2.out.size
  clear hown2 hgrow2 hat2 z0 z1 z1' hw1
  go_wp2
  rw [rounds_succ]
  go_wp2_with (at_builtin; refine wpList_append_sl (k := 3) (enc := encD) _ rfl _ _ 22 rfl w.heap.size 38 _ 40 Try.underlying22 info_Del rfl (by decide) encD_len encD_one _ na a rfl HO2.out B nb cb b rfl (HB.out.below HB2.out) (by unfold maxLen; omega) (by omega) hw2 ?_)
  intro v3 w3 hown3 hgrow3 hat3
  obtain ⟨A3, c3, rfl⟩ := own_shape hown3
  have HF : Hid (CatPost w (a ++ b) (.returned (.slice A3 nc c3)) w3) := Lib.hid ⟨A3, c3, by rw [List.length_append, hna, hnb, hnc], by rw [List.length_append, hna, hnb, hnc]; simpa [List.flatMap_append] using hown3, HB2.out.grown hgrow3 HB2.out.size (by intro k hk; exact (HO2.out.lt k hk).1)⟩
  clear hown3 hgrow3 hat3 y0 y1 y1' hw2
  go_wp2
  rw [rounds_succ]
  go_wp2
  go_ret
  exact HF.out

theorem ConPost.up {w w1 : World} {l : List Dl} {e : Ending} {w' : World} (hb : Below w.heap.size w w1) (h : ConPost w1 l e w') : ConPost w l e w' := by
  obtain ⟨A, c, out, h1, h2, h3, h4, h5⟩ := h
  exact ⟨A, c, out, h1, h2, h3, h4.mono (fun b _ hb' => Nat.le_trans hb.size hb'), hb.trans (h5.mono hb.size)⟩
theorem dlAt_own {base : Nat} {w : World} {A : Option Addr} {c : Nat} {l : List Dl} (h : w.ownsRow base 38 3 (.slice A l.length c) l.length (l.flatMap encD)) (hr : ∀ d ∈ l, SlP (fun _ => True) 3 encV w d.ra d.rn d.rc d.vs ∧ d.rn ≤ 1000000 ∧ w64 d.n = d.n) : DlAt (fun _ => True) w A c l :=
  ⟨SlP.of_own encD_len h rfl (fun _ _ _ => trivial), hr⟩
theorem DlAt.rows {P : Nat → Prop} {w w' : World} {A : Option Addr} {c : Nat} {l : List Dl} (h : DlAt P w A c l) (hb : Below w.heap.size w w') : ∀ d ∈ l, SlP (fun _ => True) 3 encV w' d.ra d.rn d.rc d.vs ∧ d.rn ≤ 1000000 ∧ w64 d.n = d.n :=
  fun d hd => ((h.mono (Q := fun _ => True) (fun _ _ _ => trivial)).below hb).2 d hd
set_option maxHeartbeats 2000000 in
theorem add_any (P Q : Nat → Prop) (A B : Option Addr) (ca cb : Nat) (a b : List Dl) (w : World) (ha : DlAt P w A ca a) (hb : DlAt Q w B cb b) (hab : a.length + b.length ≤ 1000) :
    Calls Try.prog 12 #[.slice A a.length ca, .slice B b.length cb] w (ConPost w (a ++ b)) := by
  have HA := Lib.hid ha
  have HB := Lib.hid hb
  have HR : Hid (∀ w', Below w.heap.size w w' → ∀ d ∈ a ++ b, SlP (fun _ => True) 3 encV w' d.ra d.rn d.rc d.vs ∧ d.rn ≤ 1000000 ∧ w64 d.n = d.n) := Lib.hid (fun w' hw d hd => (List.mem_append.1 hd).elim (fun h => ha.rows hw d h) (fun h => hb.rows hw d h))
  clear ha hb
  have HB0 : Hid (Below w.heap.size w (w.alloc (.cells #[.slice A a.length ca, .slice B b.length cb] 22))) := Lib.hid ((Below.refl _ w).alloc (Nat.le_refl _) _)
  have HBD : Hid (Blk (w.alloc (.cells #[.slice A a.length ca, .slice B b.length cb] 22)) w.heap.size 22 #[.slice A a.length ca, .slice B b.length cb]) := Lib.hid (Blk.new w _ _)
  go_enter Try.func12, Try.ntmps12
  go_wp2_with fail
  refine (concat_any w.heap.size a b A B ca cb _ HBD.out.two.1 HBD.out.two.2.1 (HA.out.below HB0.out).1.1 (HB.out.below HB0.out).1.1 (by omega)).mono ?_
  rintro e w1 ⟨A1, c1, rfl, hown1, hb1⟩
  have HO1 := Lib.hid hown1
  have HB1 : Hid (Below w.heap.size w w1) := Lib.hid (HB0.out.trans (hb1.mono HB0.out.size))
  clear hown1 hb1
  have hab' : (a ++ b).length ≤ 1000 := by rw [List.length_append]; exact hab
  generalize a ++ b = l at *
  go_wp2_with fail
  refine (consolidate_any (fun _ => True) A1 c1 l _ (dlAt_own HO1.out (HR.out _ HB1.out)) hab').mono ?_
  rintro e w2 hc
  have HC := Lib.hid (hc.up HB1.out)
  clear hc
  obtain ⟨A2, c2, out, rfl, _⟩ := HC.out
  go_wp2
  go_ret
  exact HC.out
theorem cellsD {w W : World} {b off : Nat} {l : List Dl} (hx : ∀ j x, l[j]? = some x → ∀ i v, (encD x)[i]? = some v → w.cell? ⟨b, off + j * 3 + i, none⟩ = some v) (hb : b < w.heap.size) (hW : Below w.heap.size w W) {j : Nat} {x : Dl} (hj : l[j]? = some x) :
    W.cell? ⟨b, off + j * 3, none⟩ = some (.int .i64 x.time) ∧ W.cell? ⟨b, off + j * 3 + 1, none⟩ = some (.slice x.ra x.rn x.rc) ∧ W.cell? ⟨b, off + j * 3 + 2, none⟩ = some (.int .i64 x.n) :=
  ⟨(World.cell?_of_block (a := ⟨b, _, none⟩) (hW.block b hb)).trans (hx j x hj 0 _ rfl), (World.cell?_of_block (a := ⟨b, _, none⟩) (hW.block b hb)).trans (hx j x hj 1 _ rfl), (World.cell?_of_block (a := ⟨b, _, none⟩) (hW.block b hb)).trans (hx j x hj 2 _ rfl)⟩
end Go.Proofs.Ytmdjcljgbagehaa
