/- timeline: At, Replace. -/
import Derived.Test.YtpdmjahdnfhcoaaTimeA
import Derived.Test.YtpdmjahdnfhcoaaOwn
namespace Go.Proofs.Ytpdmjahdnfhcoaa
open Go.RowKit

theorem cellsS {w W : World} {b off : Nat} {l : List Seg} (hx : ∀ j x, l[j]? = some x → ∀ i v, (encS x)[i]? = some v → w.cell? ⟨b, off + j * 2 + i, none⟩ = some v) (hb : b < w.heap.size) (hW : Below w.heap.size w W) {j : Nat} {x : Seg} (hj : l[j]? = some x) :
    W.cell? ⟨b, off + j * 2, none⟩ = some (.int .i64 x.frm) ∧ W.cell? ⟨b, off + j * 2 + 1, none⟩ = some (.int .i64 x.ver) :=
  ⟨(hW.cell (p := ⟨_, _, none⟩) hb).trans (hx j x hj 0 _ rfl), (hW.cell (p := ⟨_, _, none⟩) hb).trans (hx j x hj 1 _ rfl)⟩

def atF (l : List Seg) (t : Int) : Int := (l[behindF l t - 1]!).ver
theorem at_any (A : Option Addr) (c : Nat) (l : List Seg) (t : Int) (w : World) (hr : SlT 2 encS w A l.length c l) (hn : l.length ≤ 1000000) (h0 : 0 < l.length) :
    Calls Try.prog 11 #[.slice A l.length c, .int .i64 t] w fun e w' => e = .returned (.int .i64 (atF l t)) ∧ Below w.heap.size w w' := by
  have HR := Lib.hid hr
  obtain ⟨b, off, rfl, hb, hcells⟩ := hr.2.2 h0
  have hle := behindF_le l t
  have hx : l[behindF l t - 1]? = some (l[behindF l t - 1]!) := by rw [getElem!_pos l _ (by omega)]; exact List.getElem?_eq_getElem (by omega)
  have HE : Hid (atF l t = (l[behindF l t - 1]!).ver) := rfl
  generalize l[behindF l t - 1]! = x at hx HE
  have HX := Lib.hid hx
  have HC := Lib.hid hcells
  clear hr hx hcells
  rw [HE.out]
  clear HE
  go_enter Try.func11, Try.ntmps11
  go_wp2_with fail
  refine (behind_any _ c l t _ HR.out hn).mono ?_
  rintro e w1 ⟨rfl, hb1⟩
  generalize behindF l t = k at hle HX ⊢
  have HB1 := Lib.hid hb1
  by_cases hk : 1 ≤ k
  · obtain ⟨j, rfl⟩ : ∃ j, k = j + 1 := ⟨k - 1, by omega⟩
    obtain ⟨c0, c1⟩ := cellsS HC.out hb HB1.out HX.out
    simp only [Nat.add_sub_cancel] at c0 c1
    have hjl : (j : Int) < (l.length : Int) := by omega
    have hjb : (j : Int) ≤ 1000000 := by omega
    clear hb1 HX HC
    go_wp2
    go_ret
    exact ⟨rfl, HB1.out⟩
  · obtain rfl : k = 0 := by omega
    obtain ⟨c0, c1⟩ := cellsS HC.out hb HB1.out HX.out
    simp only [Nat.zero_sub, Nat.zero_mul, Nat.add_zero] at c0 c1
    clear hb1 HX HC
    go_wp2
    go_ret
    exact ⟨rfl, HB1.out⟩

/-- What timeline.Replace answers. -/
def trepF (l : List Seg) (frm ver : Int) : List Seg × Int :=
  if frm < 0 ∨ 1099511627776 < frm ∨ ver < 1 ∨ 50 < ver then ([], 3)
  else
    let out := l.take (behindF l (frm - 1))
    if out.length = 0 ∨ (out[out.length - 1]!).ver ≠ ver then (out ++ [⟨frm, ver⟩], 0) else (out, 0)
def AnswerS (w : World) (r : List Seg × Int) (e : Ending) (w' : World) : Prop := ∃ v, e = .returned (.tuple #[v, .int .i64 r.2]) ∧ SlV 2 encS w' v r.1 ∧ Below w.heap.size w w'
theorem slv_snoc2 {w : World} {base n : Nat} {ty : TypeId} {v : Value} {l : List Seg} {a b : Int} (h : w.ownsRow base ty 2 v n (l.flatMap encS ++ encS ⟨a, b⟩)) : SlV 2 encS w v (l ++ [⟨a, b⟩]) := by
  have h' : w.ownsRow base ty 2 v n ((l ++ [(⟨a, b⟩ : Seg)]).flatMap encS) := by simpa using h
  obtain rfl := own_len encS_len (by decide) h'
  exact SlV.of_own encS_len h'

set_option maxRecDepth 100000 in
theorem trep_any (A : Option Addr) (c : Nat) (l : List Seg) (frm ver : Int) (w : World) (hr : SlT 2 encS w A l.length c l) (hn : l.length ≤ 100000) :
    Calls Try.prog 30 #[.slice A l.length c, .int .i64 frm, .int .i64 ver] w (AnswerS w (trepF l frm ver)) := by
  have HR := Lib.hid hr
  by_cases hbad : frm < 0 ∨ 1099511627776 < frm ∨ ver < 1 ∨ 50 < ver
  · have e : trepF l frm ver = ([], 3) := by unfold trepF; rw [if_pos hbad]
    rw [e]
    clear hr e
    by_cases h0 : frm < 0
    · clear hbad
      go_enter Try.func30, Try.ntmps30
      go_wp2
      go_ret2
      exact ⟨_, rfl, SlV.nil, Below.refl _ _⟩
    · by_cases h1 : 1099511627776 < frm
      · clear hbad
        go_enter Try.func30, Try.ntmps30
        go_wp2
        go_ret2
        exact ⟨_, rfl, SlV.nil, Below.refl _ _⟩
      · by_cases h2 : ver < 1
        · clear hbad
          go_enter Try.func30, Try.ntmps30
          go_wp2
          go_ret2
          exact ⟨_, rfl, SlV.nil, Below.refl _ _⟩
        · have h3 : 50 < ver := by omega
          clear hbad
          go_enter Try.func30, Try.ntmps30
          go_wp2
          go_ret2
          exact ⟨_, rfl, SlV.nil, Below.refl _ _⟩
  · have e : trepF l frm ver = if (l.take (behindF l (frm - 1))).length = 0 ∨ ((l.take (behindF l (frm - 1)))[(l.take (behindF l (frm - 1))).length - 1]!).ver ≠ ver then (l.take (behindF l (frm - 1)) ++ [⟨frm, ver⟩], 0) else (l.take (behindF l (frm - 1)), 0) := by unfold trepF; rw [if_neg hbad]
    have HF := Lib.hid e
    have g0 : 0 ≤ frm := by omega
    have g1 : frm ≤ 1099511627776 := by omega
    have g2 : 1 ≤ ver := by omega
    have g3 : ver ≤ 50 := by omega
    clear hr e hbad
    have hle := behindF_le l (frm - 1)
    have hc := HR.out.2.1
    generalize hm : l.take (behindF l (frm - 1)) = m at HF
    generalize hk : behindF l (frm - 1) = k at hm hle
    have HK := Lib.hid hk
    have HM := Lib.hid hm
    have hml : m.length = k := by rw [← hm, List.length_take]; omega
    clear hk hm
    obtain rfl := hml
    have HT : Hid (SlT 2 encS w A m.length c m) := by
      have := HR.out.take hle
      rw [HM.out] at this
      exact this
    go_enter Try.func30, Try.ntmps30
    go_wp2_with fail
    refine (behind_any _ c l (frm - 1) _ HR.out (by omega)).mono ?_
    rintro e w1 ⟨rfl, hb1⟩
    rw [HK.out]
    have HB1 := Lib.hid hb1
    clear hb1
    have hkc : (m.length : Int) ≤ (c : Int) := by omega
    go_wp2_with fail
    refine (cloneS_any A _ c m _ (HT.out.below HB1.out) (by omega)).mono ?_
    rintro e w2 ⟨v, rfl, hown, hb2⟩
    have HO2 := Lib.hid (own_mono (base' := w.heap.size) hown HB1.out.size)
    have HB2 := Lib.hid (below_andthen HB1.out HB1.out.size hb2)
    clear hown hb2
    by_cases hz : m.length = 0
    · obtain rfl : m = [] := List.eq_nil_of_length_eq_zero hz
      rcases HO2.out.2 with ⟨rfl, _⟩ | ⟨b, cap, cur, rfl, hb, _⟩
      · go_wp2_with (at_builtin; refine wpList_append_sl (k := 2) (enc := encS) _ rfl _ _ 27 rfl w.heap.size 26 _ 16 Try.underlying27 info_Seg rfl (by decide) encS_len encS_one (.slice none 0 0) 0 [] rfl (HO2.out.alloc _) _ 1 1 _ rfl (SlT.one2 _ _ _ _) (by unfold maxLen; omega) (by omega) (by have := HB2.out.size; simp; omega) ?_)
        intro v4 w4 hown4 hg4 _
        have HO4 := Lib.hid hown4
        have HG4 := Lib.hid hg4
        clear hown4 hg4
        go_wp2
        go_ret2
        rw [HF.out, if_pos (Or.inl (show ([] : List Seg).length = 0 from rfl))]
        unfold AnswerS
        refine ⟨v4, rfl, ?_, (HB2.out.alloc HB2.out.size _).grown HG4.out (by have := HB2.out.size; simp; omega) (by intro k hk; simp [Value.ownBlock] at hk<;> omega)⟩
        exact slv_snoc2 (l := []) HO4.out

      · go_wp2_with (at_builtin; refine wpList_append_sl (k := 2) (enc := encS) _ rfl _ _ 27 rfl w.heap.size 26 _ 16 Try.underlying27 info_Seg rfl (by decide) encS_len encS_one (.slice (some ⟨b, 0, none⟩) 0 cap) 0 [] rfl (HO2.out.alloc _) _ 1 1 _ rfl (SlT.one2 _ _ _ _) (by unfold maxLen; omega) (by omega) (by have := HB2.out.size; simp; omega) ?_)
        intro v4 w4 hown4 hg4 _
        have HO4 := Lib.hid hown4
        have HG4 := Lib.hid hg4
        clear hown4 hg4
        go_wp2
        go_ret2
        rw [HF.out, if_pos (Or.inl (show ([] : List Seg).length = 0 from rfl))]
        unfold AnswerS
        refine ⟨v4, rfl, ?_, (HB2.out.alloc HB2.out.size _).grown HG4.out (by have := HB2.out.size; simp; omega) (by intro k hk; simp [Value.ownBlock] at hk<;> omega)⟩
        exact slv_snoc2 (l := []) HO4.out

    · rcases HO2.out.2 with ⟨rfl, hz'⟩ | ⟨b, cap, cur, rfl, hb, _⟩
      · exact absurd hz' hz
      · obtain ⟨j, hj⟩ : ∃ j, m.length = j + 1 := ⟨m.length - 1, by omega⟩
        have hx : m[j]? = some (m[j]!) := by rw [getElem!_pos m _ (by omega)]; exact List.getElem?_eq_getElem (by omega)
        have hc1 := (own_cell encS_len (by decide) HO2.out (f := 1) (by decide) hx rfl).1
        have hne : ((m.length : Int) == 0) = false := by rw [beq_eq_false_iff_ne]; omega
        have hm1 : (m.length : Int) - 1 = (j : Int) := by omega
        have hjl : (j : Int) < (m.length : Int) := by omega
        have hJ := Lib.hid hj
        have HLast : Hid (m[m.length - 1]! = m[j]!) := by show _ = _; rw [hj, Nat.add_sub_cancel]
        generalize m[j]! = x at hx hc1 HLast
        clear hj hx
        have hz' : ¬ m.length = 0 := hz
        have HZ := Lib.hid hz
        clear hz hz'
        by_cases hv : x.ver = ver
        · have hvb : (x.ver != ver) = false := by simp [hv]
          have HV := Lib.hid hv
          clear hv
          go_wp2
          go_ret2
          rw [HF.out, HLast.out, if_neg (fun h => h.elim HZ.out (fun h => h HV.out))]
          exact ⟨_, rfl, SlV.of_own encS_len HO2.out, HB2.out⟩
        · have hvb : (x.ver != ver) = true := by simpa using hv
          have HV := Lib.hid hv
          clear hv
          go_wp2_with (at_builtin; refine wpList_append_sl (k := 2) (enc := encS) _ rfl _ _ 27 rfl w.heap.size 26 _ 16 Try.underlying27 info_Seg rfl (by decide) encS_len encS_one (.slice (some ⟨b, 0, none⟩) m.length cap) m.length m rfl (HO2.out.alloc _) _ 1 1 _ rfl (SlT.one2 _ _ _ _) (by unfold maxLen; omega) (by omega) (by have := HB2.out.size; simp; omega) ?_)
          intro v4 w4 hown4 hg4 _
          have HO4 := Lib.hid hown4
          have HG4 := Lib.hid hg4
          clear hown4 hg4
          go_wp2
          go_ret2
          rw [HF.out, HLast.out, if_pos (Or.inr HV.out)]
          unfold AnswerS
          refine ⟨v4, rfl, ?_, (HB2.out.alloc HB2.out.size _).grown HG4.out (by have := HB2.out.size; simp; omega) (by intro k hk; simp [Value.ownBlock] at hk; omega)⟩
          exact slv_snoc2 HO4.out
end Go.Proofs.Ytpdmjahdnfhcoaa
