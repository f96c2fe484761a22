/- slices.DeleteFunc at replacements over a row of the call's own; Open; first. -/
import Derived.Test.YtpdmjahdnfhcoaaRepB
import Derived.Test.YtpdmjahdnfhcoaaOwn
namespace Go.Proofs.Ytpdmjahdnfhcoaa
open Go.RowKit

theorem ownR_cells {w : World} {base b n cap : Nat} {e : TypeId} {row : List Rep} (h : w.ownsRow base e 6 (.slice (some ⟨b, 0, none⟩) n cap) n (row.flatMap encR)) {j : Nat} {x : Rep} (hj : row[j]? = some x) :
    w.cell? ⟨b, j * 6, none⟩ = some (.int .i64 x.no) ∧ w.cell? ⟨b, j * 6 + 1, none⟩ = some (.int .i64 x.frm) ∧ w.cell? ⟨b, j * 6 + 2, none⟩ = some (.int .i64 x.ver) ∧
    w.cell? ⟨b, j * 6 + 3, none⟩ = some (.int .i64 x.start) ∧ w.cell? ⟨b, j * 6 + 4, none⟩ = some (.int .i64 x.state) ∧ w.cell? ⟨b, j * 6 + 5, none⟩ = some (.int .i64 x.cut) :=
  ⟨(own_cell encR_len (by decide) h (f := 0) (by decide) hj rfl).1, (own_cell encR_len (by decide) h (f := 1) (by decide) hj rfl).1, (own_cell encR_len (by decide) h (f := 2) (by decide) hj rfl).1,
    (own_cell encR_len (by decide) h (f := 3) (by decide) hj rfl).1, (own_cell encR_len (by decide) h (f := 4) (by decide) hj rfl).1, (own_cell encR_len (by decide) h (f := 5) (by decide) hj rfl).1⟩

set_option maxHeartbeats 1000000 in
set_option maxRecDepth 100000 in
theorem deleteR_some (g : Nat) (p : Rep → Bool) (eg : Enters g) (hp : PredR g p) (b n cap base : Nat) (l : List Rep) (w : World) (hown : w.ownsRow base 39 6 (.slice (some ⟨b, 0, none⟩) n cap) n (l.flatMap encR)) (hn : n ≤ 1000000) (hbase : base ≤ w.heap.size) :
    Calls Try.prog 32 #[.slice (some ⟨b, 0, none⟩) n cap, .func (.func g) #[] #[]] w fun e w' => e = .returned (.slice (some ⟨b, 0, none⟩) (l.filter fun x => !p x).length cap) ∧ w'.ownsRow base 39 6 (.slice (some ⟨b, 0, none⟩) (l.filter fun x => !p x).length cap) (l.filter fun x => !p x).length ((l.filter fun x => !p x).flatMap encR) ∧ w.grownBy w' (some b) := by
  have hr : SlT 6 encR w (some ⟨b, 0, none⟩) n cap l := SlT.of_own encR_len hown (own_len encR_len (by decide) hown)
  have HO := Lib.hid hown
  have HR := Lib.hid hr
  have HP := Lib.hid hp
  have HE := Lib.hid eg
  have eg' : ∀ args w, (callFunc g args).run Try.prog w = .ok (.enter g args) w := eg
  clear hown hr hp eg
  go_enter Try.func32, Try.ntmps32
  go_wp2_with fail
  refine (indexR_any g p HE.out HP.out _ _ _ l _ HR.out hn).mono ?_
  rintro e w1 ⟨rfl, hb1⟩
  have HL := Lib.hid HR.out.1
  rcases idxI_cases p l with ⟨hi, hall⟩ | ⟨i, x0, hi, hx0, hp0, hbef⟩
  · rw [hi]
    have HA := Lib.hid hall
    clear hi hall
    go_wp2
    go_ret
    have hf : (l.filter fun x => !p x) = l := List.filter_eq_self.2 fun x hx => by simp [HA.out x hx]
    rw [hf, HL.out]
    exact ⟨rfl, own_below HO.out hb1, only_of_below hb1 _⟩
  · rw [hi]
    have hin : i < n := by have := (List.getElem?_eq_some_iff.1 hx0).1; have := HL.out; omega
    have hne : ((i : Int) == -1) = false := by simp
    have hib : (i : Int) ≤ 1000000 := by omega
    have HF : Hid ((l.take (i + 1)).filter (fun x => !p x) = l.take i) := by
      show _ = _
      have h1 : l.take (i + 1) = l.take i ++ [x0] := by rw [List.take_add_one, hx0]; rfl
      rw [h1, List.filter_append, List.filter_eq_self.2 fun x hx => by simp [hbef x hx]]
      simp [hp0]
    clear hi hx0 hp0 hbef
    go_wp2
    go_loopg [5, 6] n (fun gg s5 s6 wr => ∃ (i j : Nat) (row : List Rep), s5 = .int .i64 i ∧ s6 = .int .i64 j ∧ i < j ∧ j ≤ n ∧ n - j ≤ gg ∧ Hid (wr.ownsRow base 39 6 (.slice (some ⟨b, 0, none⟩) n cap) n (row.flatMap encR)) ∧ Hid (w.grownBy wr (some b)) ∧ Hid (row.take i = (l.take j).filter fun x => !p x) ∧ Hid (row.drop j = l.drop j))
    case atStart => exact ⟨i, i + 1, l, rfl, by go_num, by omega, by omega, by omega, own_below HO.out hb1, only_of_below hb1 _, HF.out.symm, rfl⟩
    case round =>
      clear HF hin hne hib
      obtain ⟨i, j, row, rfl, rfl, hij, hjn, hg, HW, HG, HT, HD⟩ := hrel
      have hjb : (j : Int) ≤ 1000000 := by omega
      have hrl := own_len encR_len (by decide) HW.out
      have HRL := Lib.hid hrl
      clear hrl
      by_cases hlt : j < n
      · have hltz : (j : Int) < (n : Int) := by omega
        obtain ⟨x, hj⟩ : ∃ x, row[j]? = some x := ⟨_, List.getElem?_eq_getElem (by rw [HRL.out]; exact hlt)⟩
        obtain ⟨c0, c1, c2, c3, c4, c5⟩ := ownR_cells HW.out hj
        have HJ := Lib.hid hj
        clear hj
        have HC : Hid (∀ W : World, Calls Try.prog g #[.agg #[.int .i64 x.no, .int .i64 x.frm, .int .i64 x.ver, .int .i64 x.start, .int .i64 x.state, .int .i64 x.cut]] W fun e w' => e = .returned (.bool (p x)) ∧ Below W.heap.size W w') := fun W => HP.out W x.no x.frm x.ver x.start x.state x.cut
        go_wp2_with fail
        refine (HC.out _).mono ?_
        rintro e w2 ⟨rfl, hb2⟩
        obtain ⟨hc2, hf2⟩ := bcell hb2
        have HO2 := Lib.hid (own_below (HW.out.alloc (.cells #[.int .i64 x.no, .int .i64 x.frm, .int .i64 x.ver, .int .i64 x.start, .int .i64 x.state, .int .i64 x.cut] 39)) hb2)
        have HG2 := Lib.hid (only_below (only_alloc HG.out (.cells #[.int .i64 x.no, .int .i64 x.frm, .int .i64 x.ver, .int .i64 x.start, .int .i64 x.state, .int .i64 x.cut] 39)) hb2)
        clear hb2
        have HXL : Hid (l[j]? = some x) := by
          have h1 := congrArg (fun q => q[0]?) HD.out
          simp only [List.getElem?_drop, Nat.add_zero] at h1
          exact h1.symm.trans HJ.out
        cases hq : p x with
        | true =>
          have HQ := Lib.hid hq
          clear hq
          go_wp2
          go_roundg (n - (j + 1))
          case measure => omega
          case rel =>
            refine ⟨i, j + 1, row, rfl, by go_num, by omega, by omega, by omega, HO2.out, HG2.out, ?_, ?_⟩
            · show row.take i = _
              rw [List.take_add_one, HXL.out, List.filter_append, HT.out]
              simp [show p x = true from HQ.out]
            · show row.drop (j + 1) = _
              rw [← List.drop_drop, HD.out, List.drop_drop]
        | false =>
          have HQ := Lib.hid hq
          clear hq
          go_wp2_with (refine wpList_store_elem encR_len (by decide) encR_one HO2.out rfl 39 _ _ rfl (by kernel_rfl) i (by omega) x rfl rfl ?_)
          intro w3 hown3 hg3
          have HO3 := Lib.hid hown3
          have HG3 := Lib.hid (HG2.out.trans hg3)
          clear hown3 hg3
          have hib : (i : Int) ≤ 1000000 := by omega
          go_wp2
          go_roundg (n - (j + 1))
          case measure => omega
          case rel =>
            refine ⟨i + 1, j + 1, row.set i x, by go_num, by go_num, by omega, by omega, by omega, HO3.out, HG3.out, ?_, ?_⟩
            · show (row.set i x).take (i + 1) = _
              have hil : i < (row.set i x).length := by rw [List.length_set, HRL.out]; omega
              rw [List.take_add_one, List.getElem?_set_self (by rw [HRL.out]; omega), List.take_set_of_le (by omega), List.take_add_one, HXL.out, List.filter_append, HT.out]
              simp [show p x = false from HQ.out]
            · show (row.set i x).drop (j + 1) = _
              rw [List.drop_set_of_lt (by omega), ← List.drop_drop, HD.out, List.drop_drop]
      · have hltz : ¬ (j : Int) < (n : Int) := by omega
        have hjn' : j = n := by omega
        subst hjn'
        have hib : (i : Int) ≤ 1000000 := by omega
        have hij' : (i : Int) ≤ (j : Int) := by omega
        have hnc : j ≤ cap := HR.out.2.1
        have hic : (i : Int) ≤ (cap : Int) := by omega
        obtain ⟨w4, hrun, hown4, hg4⟩ := run_clear_behind (P := Try.prog) (t := 28) (z := .agg #[.int .i64 0, .int .i64 0, .int .i64 0, .int .i64 0, .int .i64 0, .int .i64 0]) Try.underlying28 (fun _ => by kernel_rfl) rfl (by simp [Value.cells, Value.oneCell']) encR_len (by decide) HW.out (i := i) (by omega) (some ⟨b, i * 6, none⟩) (fun _ => rfl) (cap - i) 0
        have HO4 := Lib.hid hown4
        have HG4 := Lib.hid (HG.out.trans hg4)
        clear hown4 hg4
        go_wp2
        go_ret
        have hfl : row.take i = l.filter fun x => !p x := by
          rw [HT.out, List.take_of_length_le (by rw [HL.out]; exact Nat.le_refl _)]
        have hml : i = (l.filter fun x => !p x).length := by
          rw [← hfl, List.length_take, HRL.out]; omega
        rw [← hml]
        refine ⟨rfl, ?_, HG4.out⟩
        rw [← hfl]
        exact HO4.out

/-- Over whatever row of the call's own, nil too. -/
theorem deleteR_any (g : Nat) (p : Rep → Bool) (eg : Enters g) (hp : PredR g p) (v : Value) (base : Nat) (l : List Rep) (w : World) (hown : w.ownsRow base 39 6 v l.length (l.flatMap encR)) (hn : l.length ≤ 1000000) (hbase : base ≤ w.heap.size) :
    Calls Try.prog 32 #[v, .func (.func g) #[] #[]] w fun e w' => ∃ v', e = .returned v' ∧ w'.ownsRow base 39 6 v' (l.filter fun x => !p x).length ((l.filter fun x => !p x).flatMap encR) ∧ w.grownBy w' v.ownBlock := by
  rcases hown.2 with ⟨rfl, h0⟩ | ⟨b, cap, cur, rfl, _⟩
  · obtain rfl : l = [] := List.eq_nil_of_length_eq_zero h0
    clear hown hn h0
    have HP := Lib.hid hp
    have HE := Lib.hid eg
    clear hp eg
    go_enter Try.func32, Try.ntmps32
    go_wp2_with fail
    refine (indexR_any g p HE.out HP.out none 0 0 [] _ (SlT.nil _ _) (by omega)).mono ?_
    rintro e w1 ⟨rfl, hb1⟩
    rw [show idxI p ([] : List Rep) = -1 from rfl]
    go_wp2
    go_ret
    exact ⟨_, rfl, World.ownsRow_nil _ _ _ _, only_of_below hb1 _⟩
  · exact (deleteR_some g p eg hp b l.length cap base l w hown hn hbase).mono fun e w' ⟨h1, h2, h3⟩ => ⟨_, h1, h2, h3⟩

theorem enters_open : Enters 21 := fun _ _ => by kernel_rfl
theorem enters_notopen : Enters 33 := fun _ _ => by kernel_rfl
theorem pred_open : PredR 21 (fun r => openB r.state) := fun W a b c d e f => open_any a b c d e f W
theorem pred_notopen : PredR 33 (fun r => !openB r.state) := fun W a b c d e f => notopen_any a b c d e f W

def openL (l : List Rep) : List Rep := l.filter fun r => openB r.state
theorem Open_any (A : Option Addr) (n c : Nat) (l : List Rep) (w : World) (hr : SlT 6 encR w A n c l) (hn : n ≤ 1000000) :
    Calls Try.prog 22 #[.slice A n c] w fun e w' => ∃ v, e = .returned v ∧ w'.ownsRow w.heap.size 39 6 v (openL l).length ((openL l).flatMap encR) ∧ Below w.heap.size w w' := by
  have hl := hr.1
  have HL := Lib.hid hl
  have HR := Lib.hid hr
  clear hl hr
  go_enter Try.func22, Try.ntmps22
  go_wp2_with fail
  refine (cloneR_any A n c l _ HR.out hn).mono ?_
  rintro e w1 ⟨v, rfl, hown, hb⟩
  have HO := Lib.hid hown
  clear hown
  go_wp2_with fail
  refine (deleteR_any _ _ enters_notopen pred_notopen v w.heap.size l _ HO.out (by rw [HL.out]; exact hn) hb.size).mono ?_
  rintro e w2 ⟨v2, rfl, hown2, hg2⟩
  have HO2 := Lib.hid hown2
  clear hown2
  go_wp2
  go_ret
  refine ⟨v2, rfl, ?_, hb.grown hg2 hb.size (HO.out.lt · · |>.1)⟩
  have e : (l.filter fun x => !(fun r : Rep => !openB r.state) x) = openL l := by simp [openL]
  rw [← e]
  exact HO2.out
end Go.Proofs.Ytpdmjahdnfhcoaa
