/- intake: raise; the library's DeleteFunc at counts. -/
import Derived.Test.YtghciaaedjomjaaItkA
import Derived.Shelf.SlMaps.DeleteFunc
namespace Go.Proofs.Ytghciaaedjomjaa
open Go.RowKit Go.Maps

variable {G : Nat → Prop}
def delRen : Go.Shelf.Ren := ⟨fun | 5 => 48 | n => n, fun | 0 => 0 | 4 => 4 | 23 => 67 | 24 => 3 | 26 => 3 | 27 => 87 | n => n, fun n => n⟩
theorem layDel : Go.Proofs.SlLaysDf.n5 Try.prog delRen where
  mixed := by kernel_rfl
  f5 := ⟨Try.f48.name, by kernel_rfl, Try.func48.trans (congrArg some (by kernel_rfl))⟩
  t0 := Try.underlying0
  a0 := Try.isAgg0
  z0 := Try.sizeOf0
  v0 := Try.zeroValue0
  t4 := Try.underlying4
  a4 := Try.isAgg4
  z4 := Try.sizeOf4
  v4 := Try.zeroValue4
  t23 := Try.underlying67
  a23 := Try.isAgg67
  z23 := Try.sizeOf67
  v23 := Try.zeroValue67
  a24 := Try.isAgg3
  z24 := Try.sizeOf3
  a26 := Try.isAgg3
  z26 := Try.sizeOf3
  t27 := Try.underlying87
  a27 := Try.isAgg87
  z27 := Try.sizeOf87
  v27 := Try.zeroValue87

def pdL (cl : Int) : Lit → DataW Unit → Bool
  | .int _ a, _ => decide (a ≤ cl)
  | _, _ => false
theorem atKey_delF (cl : Int) (es : List (Lit × DataW Unit)) (t : Int) (z : DataW Unit) : (Lib.deleteFuncD (pdL cl) (.map es)).atKey (.int .i64 t) z = if t ≤ cl then z else (DataW.map es).atKey (.int .i64 t) z := by
  simp only [Lib.deleteFuncD, DataW.atKey]
  by_cases h : t ≤ cl
  · rw [if_pos h, List.find?_eq_none.2 (fun p hp => ?_)]
    intro hs
    have e := WideAt.sameKey_eq hs
    have := (List.mem_filter.1 hp).2
    rw [e] at this
    simp [pdL, h] at this
  · rw [if_neg h, find_filter_keep (fun p hs => ?_)]
    have e := WideAt.sameKey_eq hs
    rw [e]
    simp [pdL, h]
theorem raise1_any (t cl : Int) (v : Value) (q : Nat) (w : World) (h : w.cell? ⟨q, 0, none⟩ = some (.int .i64 cl)) :
    Calls Try.prog 49 #[.int .i64 t, v, .pointer (some ⟨q, 0, none⟩)] w fun e w' => e = .returned (.bool (decide (t ≤ cl))) ∧ w' = w := by
  go_enter Try.func49, Try.ntmps49
  go_wp2
  go_ret
  exact ⟨rfl, rfl⟩
theorem key_inv {v : Value} {l : Lit} (h : keyOf Try.prog 3 v = some l) : ∃ a, v = .int .i64 a ∧ l = .int .i64 a := by
  have hu := Try.underlying3
  cases v <;> simp [keyOf, mapKey, hu] at h
  obtain ⟨⟨rfl, _⟩, rfl⟩ := h
  exact ⟨_, rfl, rfl⟩
/-- maps.DeleteFunc: the counts up to cl are gone. -/
theorem delete_any {w : World} {b n : Nat} {cnt : Int → Int} (h : MapC w b n cnt) (q : Nat) (cl : Int) (hq : w.cell? ⟨q, 0, none⟩ = some (.int .i64 cl)) (hqb : q ≠ b) :
    Calls Try.prog 48 #[.map (some b), .func (.func 49) #[] #[.pointer (some ⟨q, 0, none⟩)]] w fun e w' => e = .returned (.tuple #[]) ∧ MapC w' b n (fun x => if x ≤ cl then 0 else cnt x) ∧ w.grownBy w' (some b) := by
  obtain ⟨D, h, hc⟩ := h
  have hql := World.block_lt_of_cell? w _ hq
  have hm : ∃ es, D = .map es := by obtain ⟨es, clock, _, _, _, e⟩ := h; exact ⟨_, e⟩
  have hd := AnyDf.maps_DeleteFunc (P := Try.prog) (ρ := delRen) layDel key_law (plainElem Try.prog 3) (pdL cl) 49 #[.pointer (some ⟨q, 0, none⟩)] b n D w (fun _ _ => by kernel_rfl) h
    (fun W key val kl yd yp hW hk hv => by
      obtain ⟨a, rfl, rfl⟩ := key_inv hk
      have hcell : W.cell? ⟨q, 0, none⟩ = some (.int .i64 cl) := by
        rw [← hq]
        exact World.cell?_of_block (a := ⟨q, 0, none⟩) (hW.block q hql (by intro e; injection e with e; exact hqb e))
      refine (raise1_any a cl val q W hcell).mono ?_
      rintro e w' ⟨rfl, rfl⟩
      exact ⟨rfl, World.grownBy.refl _ _⟩)
  refine hd.mono ?_
  rintro e w' ⟨rfl, h1, h2⟩
  refine ⟨rfl, ⟨_, h1, fun t ht => ?_⟩, h2⟩
  obtain ⟨es, rfl⟩ := hm
  rw [atKey_delF]
  simp only
  split
  · rfl
  · exact hc t ht
def StepPost (G : Nat → Prop) (w : World) (p mb : Nat) (c : Cfg) (ks : List KnV) (st : ISt) (v : Value) (e : Ending) (w' : World) : Prop := e = .returned v ∧ IX G w' p mb c ks st ∧ Two p mb w w'
set_option maxHeartbeats 1000000 in
theorem raise_any {p mb : Nat} {c : Cfg} {ks : List KnV} {st : ISt} {w : World} (h : IX G w p mb c ks st) (hl : 0 ≤ c.late ∧ c.late ≤ 10000) (ht : -1 ≤ st.top ∧ st.top ≤ 1099511627776) (t : Int) (htm : 0 ≤ t ∧ t ≤ 1099511627776) :
    Calls Try.prog 40 #[.pointer (some ⟨p, 0, none⟩), .int .i64 t] w (StepPost G w p mb c ks (raiseF c st t) (.tuple #[])) := by
  obtain ⟨ka, kc, pa, pc, q0, q1, q2, q3, q4, q5, q6, q7, q8, q9, q10, q11, q12, _, _, hf⟩ := h.cells
  obtain ⟨hpl, hml, hpm⟩ := h.lt
  have H1 := Lib.hid (h.setTop (max st.top t))
  have hmf : ∀ (fn : Fn) (first cap : Array Value) (w : World), (Instr.makeFunc fn first cap).run Try.prog w = .ok (.func fn first cap) w := fun _ _ _ _ => rfl
  have HT : Hid (Two p mb w (w.setCell ⟨p, 8, none⟩ (.int .i64 (max st.top t)))) := Lib.hid ((Two.refl p mb w).set_ 8 _)
  clear h q0 q1 q2 q3 q4 q5 q6 q7 q9 q10 q11
  go_enter Try.func40, Try.ntmps40
  go_wp2_with fail
  refine (closed_any H1.out hl (by simp only; omega)).mono ?_
  rintro e w1 ⟨rfl, hb1⟩
  have HX1 := Lib.hid (H1.out.below hb1)
  have HT1 := Lib.hid (HT.out.trans (Two.of_below hb1))
  have hq12 : w1.cell? ⟨p, 12, none⟩ = some (.map (some mb)) := by
    obtain ⟨_, _, _, _, _, _, _, _, _, _, _, _, _, _, _, _, e, _⟩ := HX1.out.cells
    exact e
  have hp1 : p < w1.heap.size := HX1.out.lt.1
  have hm1 : mb < w1.heap.size := HX1.out.lt.2.1
  clear hb1 q8 q12 hf
  generalize hcl : closedF c { st with top := max st.top t } = cl
  have HMC : Hid (MapC (w1.alloc (.cells #[.int .i64 cl] 3)) mb st.next st.cnt) := Lib.hid (HX1.out.mapc.block (Below.heap_alloc _ _ _ hm1))
  have HXA := Lib.hid (HX1.out.alloc (.cells #[.int .i64 cl] 3))
  have HTA := Lib.hid (HT1.out.trans (Two.of_below ((Below.refl _ w1).alloc (Nat.le_refl _) (.cells #[.int .i64 cl] 3))))
  go_wp2_with fail
  refine (delete_any HMC.out w1.heap.size cl (by simp) (by omega)).mono ?_
  rintro e w2 ⟨rfl, hm2, hg2⟩
  have HX2 := Lib.hid (HXA.out.setMap hm2 hg2)
  have HT2 := Lib.hid (HTA.out.grown hg2)
  clear hm2 hg2
  go_wp2
  go_end0
  refine ⟨rfl, ?_, HT2.out⟩
  have := HX2.out
  rw [← hcl] at this
  exact this
end Go.Proofs.Ytghciaaedjomjaa
