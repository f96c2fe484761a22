/- law 42: at, small: plain. -/
import Derived.Test.YtmdjcljgbagehaaRigA
namespace Go.Proofs.Ytmdjcljgbagehaa
open Go.RowKit

def atD (t : Int) (g : Nat) (n : Int) : Dl := ⟨t, some ⟨g, 0, none⟩, 1, 1, 1, [⟨0, n, ⟨#[]⟩⟩]⟩
def AtPost (t n : Int) (w : World) (e : Ending) (w' : World) : Prop := ∃ g, e = .returned (.agg #[.int .i64 t, .slice (some ⟨g, 0, none⟩) 1 1, .int .i64 1]) ∧ SlT 3 encV w' (some ⟨g, 0, none⟩) 1 1 [⟨0, n, ⟨#[]⟩⟩] ∧ Below w.heap.size w w'
set_option maxRecDepth 100000 in
theorem at_any (t n : Int) (w : World) : Calls Try.prog 14 #[.int .i64 t, .int .i64 n] w (AtPost t n w) := by
  go_enter Try.func14, Try.ntmps14
  go_wp2
  refine bodyPost_ret (v := .agg #[.int .i64 t, .slice (some ⟨w.heap.size + 1, 0, none⟩) 1 1, .int .i64 1]) (by simp [results, Try.results14, go_sem]) rfl ⟨w.heap.size + 1, rfl, ?_, ?_⟩
  · exact slT_block encV_len (Blk.new' _ _ 48 _ (by simp)) rfl rfl (Nat.le_refl _)
  · exact ((Below.refl _ w).alloc (Nat.le_refl _) _).alloc (by simp) _
def ky1 : Ky := (5, [(0, (1, []))])
def ky2 : Ky := (5, [(0, (2, []))])
theorem at_key1 (g : Nat) : (atD 5 g 1).key = ky1 := rfl
theorem at_key2 (g : Nat) : (atD 5 g 2).key = ky2 := rfl
theorem ky_lt : cmpKy ky1 ky2 < 0 := by decide
theorem ky_ne : ky1 ≠ ky2 := fun h => by have := ky_lt; rw [h, tcmp_ky.refl] at this; omega
theorem small_cons (g1 g2 : Nat) : ConsOf ([atD 5 g2 2] ++ [atD 5 g1 1].map negD) [negD (atD 5 g1 1), atD 5 g2 2] := by
  refine ⟨⟨?_, ?_⟩, fun k => ?_⟩
  · refine List.pairwise_cons.2 ⟨fun y hy => ?_, List.pairwise_singleton _ _⟩
    rw [List.mem_singleton.1 hy]
    exact ky_lt
  · intro d hd
    rcases List.mem_cons.1 hd with rfl | hd
    · show w64 (-1) ≠ 0
      decide
    · rw [List.mem_singleton.1 hd]
      show (1 : Int) ≠ 0
      decide
  · rw [List.map_cons, List.map_nil, List.singleton_append, tot_cons, tot_cons, tot_cons, tot_cons, tot_nil, negD_key, at_key1, at_key2]
    have h1 : (negD (atD 5 g1 1)).n = -1 := by show w64 (-1) = -1; decide
    have h2 : (atD 5 g2 2).n = 1 := rfl
    rw [h1, h2]
    by_cases e1 : ky1 = k
    · have e2 : ¬ ky2 = k := fun h => ky_ne (e1.trans h.symm)
      rw [if_pos e1, if_neg e2]
      decide
    · by_cases e2 : ky2 = k
      · rw [if_neg e1, if_pos e2]
        decide
      · rw [if_neg e1, if_neg e2]
        decide
theorem two_of {d : List Dl} (h : d.map kn = [(ky1, -1), (ky2, 1)]) : ∃ x y, d = [x, y] ∧ (x.time = 5 ∧ x.n = -1) ∧ (y.time = 5 ∧ y.n = 1) := by
  rcases d with _ | ⟨x, _ | ⟨y, _ | ⟨z, d⟩⟩⟩
  · simp at h
  · simp at h
  · refine ⟨x, y, rfl, ?_, ?_⟩
    · simp only [List.map_cons, List.map_nil, List.cons.injEq, kn, Prod.mk.injEq] at h
      exact ⟨congrArg Prod.fst h.1.1, h.1.2⟩
    · simp only [List.map_cons, List.map_nil, List.cons.injEq, kn, Prod.mk.injEq] at h
      exact ⟨congrArg Prod.fst h.2.1.1, h.2.1.2⟩
  · simp at h
theorem small_diff {g1 g2 : Nat} {d : List Dl} (h : ConsOf ([atD 5 g2 2] ++ [atD 5 g1 1].map negD) d) : d.map kn = [(ky1, -1), (ky2, 1)] := by
  have := h.same (small_cons g1 g2) (fun k => rfl)
  rw [this]
  simp only [List.map_cons, List.map_nil, kn, negD_key, at_key1, at_key2]
  rfl
theorem cons_again {l d out : List Dl} (h : ConsOf l d) (h2 : ConsOf d out) : out.map kn = d.map kn := h2.same h (fun k => w64_id_of h k)
theorem small_lines {mark rep : Int} {out : List Dl} {L : List Ln} (h : out.map kn = [(ky1, -1), (ky2, 1)]) (hL : LinesOf 7 3 mark rep out L) :
    ∃ x y, L = [x, y] ∧ (x.no = 7 ∧ x.batch = 3 ∧ x.time = 5 ∧ x.n = -1 ∧ x.cause = (if 0 < rep then 2 else if mark < 5 then 0 else 1) ∧ x.why = (if 0 < rep then rep else 0)) ∧ (y.no = 8 ∧ y.batch = 3 ∧ y.time = 5 ∧ y.n = 1 ∧ y.cause = (if 0 < rep then 2 else if mark < 5 then 0 else 1) ∧ y.why = (if 0 < rep then rep else 0)) := by
  obtain ⟨a, b, rfl, ⟨a1, a2⟩, b1, b2⟩ := two_of h
  have hl := hL.1
  rcases L with _ | ⟨x, _ | ⟨y, _ | ⟨z, d⟩⟩⟩
  · simp at hl
  · simp at hl
  · have h1 := hL.2 0 a x rfl rfl
    have h2 := hL.2 1 b y rfl rfl
    subst h1 h2
    refine ⟨_, _, rfl, ⟨by show w64 (7 + (0 : Nat)) = 7; decide, rfl, a1, a2, ?_, rfl⟩, by show w64 (7 + (1 : Nat)) = 8; decide, rfl, b1, b2, ?_, rfl⟩
    · simp only [lnOf, a1]
    · simp only [lnOf, b1]
  · simp at hl

theorem least2 {mark rep : Int} {d out : List Dl} {L : List Ln} (hc : ConsOf d out) (h : out.map kn = [(ky1, -1), (ky2, 1)]) (hL : LinesOf 7 3 mark rep out L) : LeastL L :=
  lines_least hL hc.cons (by omega) (by
    have := congrArg List.length h
    rw [List.length_map] at this
    rw [this]
    decide)
theorem dl_two {P : Nat → Prop} {w : World} {A : Option Addr} {c : Nat} {x y : Dl} (h : DlAt P w A c [x, y]) : ∃ b o, A = some ⟨b, o, none⟩ ∧ b < w.heap.size ∧ w.cell? ⟨b, o + 2, none⟩ = some (.int .i64 x.n) ∧ w.cell? ⟨b, o + 3 + 2, none⟩ = some (.int .i64 y.n) := by
  obtain ⟨b, o, rfl, h1, h2, h3, h4⟩ := h.getD (j := 0) (x := x) rfl (Below.refl _ _)
  obtain ⟨b', o', e, h1', h2', h3', h4'⟩ := h.getD (j := 1) (x := y) rfl (Below.refl _ _)
  injection e with e
  injection e with e1 e2
  subst e1 e2
  exact ⟨b, o, rfl, h4, h3, h3'⟩
theorem ln_two {P : Nat → Prop} {w : World} {A : Option Addr} {c : Nat} {x y : Ln} (h : LnAt P w A c [x, y]) : ∃ b o, A = some ⟨b, o, none⟩ ∧ b < w.heap.size ∧ w.cell? ⟨b, o, none⟩ = some (.int .i64 x.no) ∧ w.cell? ⟨b, o + 1, none⟩ = some (.int .i64 x.batch) ∧ w.cell? ⟨b, o + 5, none⟩ = some (.int .i64 x.cause) ∧ w.cell? ⟨b, o + 7, none⟩ = some (.int .i64 y.no) ∧ w.cell? ⟨b, o + 7 + 5, none⟩ = some (.int .i64 y.cause) ∧ w.cell? ⟨b, o + 7 + 6, none⟩ = some (.int .i64 y.why) := by
  obtain ⟨b, o, rfl, ⟨h1, h2, h3, h4, h5, h6, h7⟩, h8⟩ := h.getL (j := 0) (x := x) rfl (Below.refl _ _)
  obtain ⟨b', o', e, ⟨h1', h2', h3', h4', h5', h6', h7'⟩, h8'⟩ := h.getL (j := 1) (x := y) rfl (Below.refl _ _)
  injection e with e
  injection e with e1 e2
  subst e1 e2
  exact ⟨b, o, rfl, h8, h1, h2, h6, h1', h6', h7'⟩
theorem one_at {t n : Int} {g : Nat} {w : World} (h : SlT 3 encV w (some ⟨g, 0, none⟩) 1 1 [⟨0, n, ⟨#[]⟩⟩]) : DlAt (fun _ => True) (w.alloc (.cells #[.int .i64 t, .slice (some ⟨g, 0, none⟩) 1 1, .int .i64 1] 38)) (some ⟨w.heap.size, 0, none⟩) 1 [atD t g n] := by
  refine ⟨⟨slT_block encD_len (Blk.new' w w.heap.size _ _ rfl) rfl rfl (Nat.le_refl _), fun _ _ _ _ => trivial⟩, fun d hd => ?_⟩
  rw [List.mem_singleton.1 hd]
  exact ⟨⟨h.alloc _, fun _ _ _ _ => trivial⟩, by show 1 ≤ 1000000; omega, by show w64 1 = 1; decide⟩
set_option maxHeartbeats 8000000 in
set_option maxRecDepth 100000 in
theorem small_any (w : World) : Calls Try.prog 5 #[] w (BoolPost w true) := by
  go_enter Try.func5, Try.ntmps5
  go_wp2_with fail
  refine (at_any 5 1 _).mono ?_
  rintro e w1 ⟨g1, rfl, hr1, hb1⟩
  have HR1 := Lib.hid hr1
  have HB1 := Lib.hid hb1
  clear hr1 hb1
  go_wp2_with fail
  have HL1 := Lib.hid (one_at (t := 5) HR1.out)
  have HBB1 : Hid (Below w1.heap.size w1 (w1.alloc (.cells #[.int .i64 5, .slice (some ⟨g1, 0, none⟩) 1 1, .int .i64 1] 38))) := Lib.hid ((Below.refl _ w1).alloc (Nat.le_refl _) _)
  generalize (w1.alloc (.cells #[.int .i64 5, .slice (some ⟨g1, 0, none⟩) 1 1, .int .i64 1] 38)) = wa at HL1 HBB1 ⊢
  have HBA := Lib.hid (HB1.out.trans (HBB1.out.mono HB1.out.size))
  refine (at_any 5 2 _).mono ?_
  rintro e w2 ⟨g2, rfl, hr2, hb2⟩
  have HR2 := Lib.hid hr2
  have HL12 := Lib.hid (HL1.out.below hb2)
  have HB2 := Lib.hid (HBA.out.trans (hb2.mono HBA.out.size))
  clear hr2 hb2 HR1 HB1 HBB1 HL1
  go_wp2_with fail
  have HL2 := Lib.hid (one_at (t := 5) HR2.out)
  have HBB2 : Hid (Below w2.heap.size w2 (w2.alloc (.cells #[.int .i64 5, .slice (some ⟨g2, 0, none⟩) 1 1, .int .i64 1] 38))) := Lib.hid ((Below.refl _ w2).alloc (Nat.le_refl _) _)
  generalize (w2.alloc (.cells #[.int .i64 5, .slice (some ⟨g2, 0, none⟩) 1 1, .int .i64 1] 38)) = wb at HL2 HBB2 ⊢
  have HL13 := Lib.hid (HL12.out.below HBB2.out)
  have HBB := Lib.hid (HB2.out.trans (HBB2.out.mono HB2.out.size))
  clear HL12 HBB2 HB2 HR2 HBA
  refine (diff_any (fun _ => True) (fun _ => True) (some ⟨w1.heap.size, 0, none⟩) (some ⟨w2.heap.size, 0, none⟩) 1 1 [atD 5 g1 1] [atD 5 g2 2] _ HL13.out HL2.out (by simp)).mono ?_
  rintro e w3 ⟨A3, c3, d, rfl, hco, _, hd3, hb3⟩
  have HK := Lib.hid (small_diff hco)
  obtain ⟨x, y, rfl, ⟨x1, x2⟩, y1, y2⟩ := two_of HK.out
  have HC := Lib.hid hco
  have HD := Lib.hid hd3.any
  have HB3 := Lib.hid (HBB.out.trans (hb3.mono HBB.out.size))
  clear hco hd3 hb3 HL13 HL2 HBB
  go_wp2_with fail
  refine (lines_any (fun _ => True) A3 c3 [x, y] _ HD.out (by simp) 7 3 4 0).mono ?_
  rintro e w4 ⟨A4, c4, o4, L4, rfl, hco4, hL4, hat4, hb4⟩
  have hk4 := (cons_again HC.out hco4).trans HK.out
  have HLE4 := Lib.hid (least2 hco4 hk4 hL4)
  obtain ⟨p4, q4, rfl, HP4, HQ4⟩ := small_lines hk4 hL4
  have HP4' := Lib.hid HP4
  have HQ4' := Lib.hid HQ4
  have HA4 := Lib.hid hat4
  have HD4 := Lib.hid (HD.out.below hb4)
  have HBF4 := Lib.hid hb4
  have HB4 := Lib.hid (HB3.out.trans (hb4.mono HB3.out.size))
  clear hco4 hL4 hat4 hb4 hk4 HP4 HQ4
  go_wp2_with fail
  refine (lines_any (fun _ => True) A3 c3 [x, y] _ HD4.out (by simp) 7 3 5 0).mono ?_
  rintro e w5 ⟨A5, c5, o5, L5, rfl, hco5, hL5, hat5, hb5⟩
  have hk5 := (cons_again HC.out hco5).trans HK.out
  have HLE5 := Lib.hid (least2 hco5 hk5 hL5)
  obtain ⟨p5, q5, rfl, HP5, HQ5⟩ := small_lines hk5 hL5
  have HP5' := Lib.hid HP5
  have HQ5' := Lib.hid HQ5
  have HA5 := Lib.hid hat5
  have HD5 := Lib.hid (HD4.out.below hb5)
  have HBF5 := Lib.hid hb5
  have HB5 := Lib.hid (HB4.out.trans (hb5.mono HB4.out.size))
  clear hco5 hL5 hat5 hb5 hk5 HP5 HQ5
  go_wp2_with fail
  refine (lines_any (fun _ => True) A3 c3 [x, y] _ HD5.out (by simp) 7 3 5 2).mono ?_
  rintro e w6 ⟨A6, c6, o6, L6, rfl, hco6, hL6, hat6, hb6⟩
  have hk6 := (cons_again HC.out hco6).trans HK.out
  have HLE6 := Lib.hid (least2 hco6 hk6 hL6)
  obtain ⟨p6, q6, rfl, HP6, HQ6⟩ := small_lines hk6 hL6
  have HP6' := Lib.hid HP6
  have HQ6' := Lib.hid HQ6
  have HA6 := Lib.hid hat6
  have HD6 := Lib.hid (HD5.out.below hb6)
  have HBF6 := Lib.hid hb6
  have HB6 := Lib.hid (HB5.out.trans (hb6.mono HB5.out.size))
  clear hco6 hL6 hat6 hb6 hk6 HP6 HQ6
  obtain ⟨bd, od, rfl, hbd, d0, d1⟩ := dl_two HD6.out
  obtain ⟨bp, op, rfl, hbp, p0, p1, p2, p3, _, _⟩ := ln_two ((HA4.out.below HBF5.out).below HBF6.out)
  obtain ⟨bq, oq, rfl, hbq, _, _, q2, _, _, _⟩ := ln_two (HA5.out.below HBF6.out)
  obtain ⟨br, or, rfl, hbr, _, _, _, _, r4, r5⟩ := ln_two HA6.out
  rw [x2] at d0
  rw [y2] at d1
  rw [HP4'.out.1] at p0
  rw [HP4'.out.2.1] at p1
  rw [HP4'.out.2.2.2.2.1] at p2
  rw [HQ4'.out.1] at p3
  rw [HP5'.out.2.2.2.2.1] at q2
  rw [HQ6'.out.2.2.2.2.1] at r4
  rw [HQ6'.out.2.2.2.2.2] at r5
  have i1 : (if (0 : Int) < 0 then (2 : Int) else if (4 : Int) < 5 then 0 else 1) = 0 := by decide
  have i2 : (if (0 : Int) < 0 then (2 : Int) else if (5 : Int) < 5 then 0 else 1) = 1 := by decide
  have i3 : (if (0 : Int) < 2 then (2 : Int) else if (5 : Int) < 5 then 0 else 1) = 2 := by decide
  have i4 : (if (0 : Int) < 2 then (2 : Int) else 0) = 2 := by decide
  rw [i1] at p2
  rw [i2] at q2
  rw [i3] at r4
  rw [i4] at r5
  have HLN := Lib.hid ((HA4.out.below HBF5.out).below HBF6.out)
  clear i1 i2 i3 i4 x1 x2 y1 y2
  go_wp2_with fail
  refine (least_any (fun _ => True) (some ⟨bp, op, none⟩) c4 [p4, q4] _ HLN.out (by simp)).mono ?_
  rintro e w7 ⟨r, rfl, hr, hb7⟩
  have HB7 := Lib.hid (HB6.out.trans (hb7.mono HB6.out.size))
  obtain rfl := hr.2 HLE4.out
  clear hr hb7
  go_wp2
  go_ret
  exact ⟨rfl, HB7.out⟩
end Go.Proofs.Ytmdjcljgbagehaa
