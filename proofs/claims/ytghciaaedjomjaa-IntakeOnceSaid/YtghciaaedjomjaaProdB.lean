/- producer: clone. -/
import Derived.Test.YtghciaaedjomjaaProdA
import Derived.Shelf.Spec.SlicesInsertGrow
import Derived.Laws.MakeOwn
namespace Go.Proofs.Ytghciaaedjomjaa
open Go.RowKit

theorem info_Prd : (Try.prog.info? 59).map (fun i => (i.zero, i.size, i.bytes)) = some (some (.agg #[.int .i64 0, .int .i64 0, .int .i64 0, .slice none 0 0]), 4, 48) := by kernel_rfl

/-! ### copy of elements of k cells -/
section
variable {P : Program}
theorem run_copy_k (w : World) (dT sT ty elem : TypeId) (b o dLen dCap : Nat) (a : Addr) (sLen sCap : Nat) (cs : List Value) (k m : Nat)
    (hu : P.underlying dT = some (.slice elem)) (hs : (P.info? elem).map (·.size) = some k) (hm : Nat.min sLen dLen = m) (hn : cs.length = m * k)
    (hsrc : ∀ j v, cs[j]? = some v → w.cell? (a.add j) = some v) (hc : ∀ j, j < cs.length → (w.cell? ⟨b, o + j, none⟩).isSome = true) (hf : ∀ j, j < cs.length → w.frozen? ⟨b, o + j, none⟩ = false) (h1 : ∀ v ∈ cs, v.oneCell' = true) :
    (Builtin.copy_ #[dT, sT] ty #[.slice (some ⟨b, o, none⟩) dLen dCap, .slice (some a) sLen sCap]).run P w = .ok (goInt m) (w.setCells b o cs) := by
  have hl := run_loadCells_list (P := P) w a cs hsrc
  have hst := run_storeCells_cells (P := P) b o cs 0 w (by simpa using hc) (by simpa using hf) h1
  cases hq : P.info? elem with
  | none => simp [hq] at hs
  | some i =>
    have hi : i.size = k := by simpa [hq] using hs
    simp [Builtin.copy_, run_underlying hu, Builtin.lenOf, Builtin.firstCells, sizeOf, typeInfo, hq, hi, hm, ← hn, hl, hst]
theorem run_copy_zero (w : World) (dT sT ty elem : TypeId) (d a : Option Addr) (dLen dCap sLen sCap : Nat) (hu : P.underlying dT = some (.slice elem)) (hs : ((P.info? elem).map (·.size)).isSome = true) (hn : Nat.min sLen dLen = 0) :
    (Builtin.copy_ #[dT, sT] ty #[.slice d dLen dCap, .slice a sLen sCap]).run P w = .ok (goInt 0) w := by
  cases hq : P.info? elem with
  | none => simp [hq] at hs
  | some i =>
    cases a <;> cases d <;> simp [Builtin.copy_, run_underlying hu, Builtin.lenOf, Builtin.firstCells, sizeOf, typeInfo, hq, hn, loadCells, loadCellsFrom, storeCells]
end
theorem src_cells {α : Type} {k : Nat} {enc : α → List Value} (hk : ∀ x, (enc x).length = k) (hk0 : 0 < k) {w : World} {b off n c : Nat} {l : List α} (h : SlT k enc w (some ⟨b, off, none⟩) n c l) :
    ∀ j v, (l.flatMap enc)[j]? = some v → w.cell? ((⟨b, off, none⟩ : Addr).add j) = some v := by
  intro j u hu
  have hj : j = j / k * k + j % k := by rw [Nat.mul_comm]; exact (Nat.div_add_mod j k).symm
  have hmod := Nat.mod_lt j hk0
  rw [hj, flat_at hk l _ _ hmod, Option.bind_eq_some_iff] at hu
  obtain ⟨x, hx1, hx2⟩ := hu
  have hpos : 0 < n := by rw [← h.1]; exact Nat.lt_of_le_of_lt (Nat.zero_le _) (List.getElem?_eq_some_iff.1 hx1).1
  obtain ⟨b', off', e, _, hx⟩ := h.2.2 hpos
  injection e with e
  injection e with e1 e2
  subst e1 e2
  have := hx _ x hx1 _ u hx2
  rw [Addr.add_lit, ← this]
  congr 2
  omega
/-- make([]T, n) and a copy of a slice of n elements into it: a row of the call's own. -/
theorem made_copied {α : Type} {k : Nat} {enc : α → List Value} (hk : ∀ x, (enc x).length = k) {w : World} {base : Nat} {e : TypeId} {n g : Nat} {ZS : List Value} {l : List α}
    (hown : w.ownsRow base e k (.slice (some ⟨g, 0, none⟩) n n) n ZS) (hl : l.length = n) :
    (w.setCells g 0 (l.flatMap enc)).ownsRow base e k (.slice (some ⟨g, 0, none⟩) n n) n (l.flatMap enc) ∧ w.grownBy (w.setCells g 0 (l.flatMap enc)) (some g) := by
  have h1 := hown.1
  have h2 := flat_len hk l
  obtain ⟨h3, h4⟩ := own_setCells (l.flatMap enc) 0 w ZS hown (by rw [h2, h1, hl]; omega)
  refine ⟨?_, h4⟩
  rw [List.take_zero, List.nil_append, List.drop_of_length_le (by rw [h2, h1, hl]; omega), List.append_nil] at h3
  exact h3

/-- A copy of a table. -/
def ClonePost (w : World) (s : List Prd) (e : Ending) (w' : World) : Prop :=
  ∃ (g : Nat) (raw : List PRaw), e = .returned (.slice (some ⟨g, 0, none⟩) s.length s.length) ∧ w'.ownsRow w.heap.size 59 4 (.slice (some ⟨g, 0, none⟩) s.length s.length) s.length (raw.flatMap encP) ∧
    Raws (fun b => w.heap.size < b) w' raw s ∧ g = w.heap.size ∧ Below w.heap.size w w'
theorem raws_set {P : Nat → Prop} {w : World} {raw : List PRaw} {s : List Prd} {i : Nat} {r : PRaw} (h : Raws P w raw s) (hr : ∀ p, s[i]? = some p → RawOk P w r p) : Raws P w (raw.set i r) s := by
  refine ⟨by rw [List.length_set]; exact h.1, fun j x p hx hp => ?_⟩
  rw [List.getElem?_set] at hx
  split at hx
  · rename_i e
    subst e
    split at hx
    · injection hx with hx
      rw [← hx]
      exact hr p hp
    · cases hx
  · exact h.2 j x p hx hp

set_option maxHeartbeats 4000000 in
set_option maxRecDepth 100000 in
theorem pclone_any (P : Nat → Prop) (A : Option Addr) (c : Nat) (s : List Prd) (w : World) (hr : TabP P w A c s) (hn : s.length ≤ 100000) (hlast : ∀ p ∈ s, p.last.length ≤ 100000) :
    Calls Try.prog 30 #[.slice A s.length c] w (ClonePost w s) := by
  obtain ⟨raw, hr1, hr2⟩ := hr
  have HR1 := Lib.hid hr1
  have HR2 := Lib.hid hr2
  have HLAST := Lib.hid hlast
  clear hr1 hr2 hlast
  obtain ⟨i0, hi0, hzz⟩ := Option.map_eq_some_iff.1 info_Prd
  simp only [Prod.mk.injEq] at hzz
  obtain ⟨hz0, hz1, hz2⟩ := hzz
  have hmk : ∀ W : World, (Instr.makeSlice 24 (.int .i64 (s.length : Int)) (.int .i64 (s.length : Int))).run Try.prog W = .ok (.slice (some ⟨W.heap.size, 0, none⟩) s.length s.length) (W.alloc (.cells (madeCells (Value.agg #[.int .i64 0, .int .i64 0, .int .i64 0, .slice none 0 0]).cells (s.length * 4)) 59)) := fun W => by
    have h := run_make (P := Try.prog) W 24 59 i0 _ Try.underlying24 hi0 hz0 .i64 .i64 (s.length : Int) (s.length : Int) (by omega) (Int.le_refl _) (by rw [hz2]; omega) (by omega)
    rw [hz1] at h
    simpa using h
  have hsz := size_madeCells (Value.agg #[.int .i64 0, .int .i64 0, .int .i64 0, .slice none 0 0]).cells (s.length * 4)
  generalize madeCells (Value.agg #[.int .i64 0, .int .i64 0, .int .i64 0, .slice none 0 0]).cells (s.length * 4) = ROW at hmk hsz
  have hinfo4 : (Try.prog.info? 59).map (·.size) = some 4 := by rw [hi0]; simp [hz1]
  have hown0 := Lib.hid (World.ownsRow_lit (e := 59) (base := w.heap.size) w ROW s.length (Nat.le_refl _) (by unfold maxLen; omega) hsz)
  have hraw : raw.length = s.length := HR2.out.1
  have hcopy : ∃ W1, Hid (∀ ty, (Builtin.copy_ #[24, 24] ty #[.slice (some ⟨w.heap.size, 0, none⟩) s.length s.length, .slice A s.length c]).run Try.prog (w.alloc (.cells ROW 59)) = .ok (goInt s.length) W1) ∧
      Hid (W1.ownsRow w.heap.size 59 4 (.slice (some ⟨w.heap.size, 0, none⟩) s.length s.length) s.length (raw.flatMap encP)) ∧ Hid (Below w.heap.size w W1) := by
    rcases Nat.eq_zero_or_pos s.length with h0 | h0
    · refine ⟨w.alloc (.cells ROW 59), fun ty => ?_, ?_, (Below.refl _ w).alloc (Nat.le_refl _) _⟩
      · rw [h0]
        exact run_copy_zero _ _ _ ty _ _ _ _ _ _ _ Try.underlying24 (by rw [hinfo4]; rfl) (by simp)
      · have hre : raw = [] := List.eq_nil_of_length_eq_zero (by omega)
        have hro : ROW.toList = [] := List.eq_nil_of_length_eq_zero (by rw [Array.length_toList, hsz]; omega)
        have := hown0.out
        rw [hro] at this
        rw [hre]
        exact this
    · obtain ⟨b, off, rfl, hb, hx⟩ := HR1.out.1.2.2 h0
      obtain ⟨q1, q2⟩ := made_copied encP_len hown0.out hraw
      refine ⟨_, fun ty => ?_, q1, ((Below.refl _ w).alloc (Nat.le_refl _) _).grown q2 (by simp) (by intro k hk; injection hk with hk; omega)⟩
      have hth := own_there hown0.out 0 (s.length * 4) (by omega)
      have hfl : (raw.flatMap encP).length = s.length * 4 := by rw [flat_len encP_len, hraw]
      exact run_copy_k _ _ _ ty _ w.heap.size 0 s.length s.length ⟨b, off, none⟩ s.length c (raw.flatMap encP) 4 s.length Try.underlying24 hinfo4 (by simp) hfl
        (src_cells encP_len (by decide) (HR1.out.1.alloc _)) (fun j hj => (hth j (by omega)).1) (fun j hj => (hth j (by omega)).2) (fun v hv => by
          obtain ⟨x, _, hx⟩ := List.mem_flatMap.1 hv
          exact encP_one x v hx)
  obtain ⟨W1, hrun, HO1, HB1⟩ := hcopy
  clear hown0 hinfo4 hsz hi0 hz0 hz1 hz2
  go_enter Try.func30, Try.ntmps30
  have hcp := hrun.out 3
  go_wp2_with fail
  clear hmk hrun hcp
  go_loopg [4, 13] s.length (fun gg _ s13 wr => ∃ (i : Nat) (rw' : List PRaw), s13 = .int .i64 i ∧ i ≤ s.length ∧ s.length - i ≤ gg ∧ Hid (rw'.length = s.length) ∧ Hid (wr.ownsRow w.heap.size 59 4 (.slice (some ⟨w.heap.size, 0, none⟩) s.length s.length) s.length (rw'.flatMap encP)) ∧
    Hid (∀ (j : Nat) (r : PRaw) (p : Prd), j < i → rw'[j]? = some r → s[j]? = some p → RawOk (fun b => w.heap.size < b) wr r p) ∧ Hid (∀ j : Nat, i ≤ j → rw'[j]? = raw[j]?) ∧ Hid (Below w.heap.size w wr))
  case atStart => exact ⟨0, raw, rfl, by omega, by omega, hraw, HO1.out, fun j _ _ hj => absurd hj (Nat.not_lt_zero _), fun _ _ => rfl, HB1.out⟩
  case round =>
    obtain ⟨i, rw', rfl, hi, hg, hlen, HO, HLO, HHI, HB⟩ := hrel
    have hgw : w.heap.size < wr.heap.size := (HO.out.lt w.heap.size rfl).2
    by_cases hlt : i < s.length
    · have hltz : (i : Int) < (s.length : Int) := by omega
      obtain ⟨r, hr⟩ : ∃ r, raw[i]? = some r := ⟨_, List.getElem?_eq_getElem (by omega)⟩
      obtain ⟨p, hp⟩ : ∃ p, s[i]? = some p := ⟨_, List.getElem?_eq_getElem hlt⟩
      have hr' : rw'[i]? = some r := by rw [HHI.out i (Nat.le_refl _)]; exact hr
      have HOK := Lib.hid (HR2.out.2 i r p hr hp)
      obtain ⟨c3, f3⟩ := own_cell encP_len (by decide) HO.out (f := 3) (by decide) hr' (v := .slice r.la r.ln r.lc) rfl
      have hpl := HLAST.out p (List.mem_of_getElem? hp)
      have hln : r.ln ≤ 100000 := by have := HOK.out.2.2.2.1; omega
      have HR' := Lib.hid hr'
      have HPS := Lib.hid hp
      clear hr hp hr'
      go_wp2_with fail
      refine (cloneI_any r.la r.ln r.lc p.last _ (HOK.out.2.2.2.2.1.below HB.out) (by omega)).mono ?_
      rintro e w2 ⟨v, rfl, hown2, hb2⟩
      obtain ⟨A', c', rfl⟩ := own_shape hown2
      have hnew : Hid (SlP (fun b => w.heap.size < b) 1 eI w2 A' p.last.length c' p.last) := Lib.hid (SlP.of_own eI_len hown2 rfl (fun b h1 h2 => by omega))
      have HO2 := Lib.hid (own_below HO.out hb2)
      have HB2 := Lib.hid (HB.out.trans (hb2.mono HB.out.size))
      obtain ⟨c3', f3'⟩ := own_cell encP_len (by decide) HO2.out (f := 3) (by decide) HR'.out (v := .slice r.la r.ln r.lc) rfl
      obtain ⟨q1, q2⟩ := own_field encP_len HO2.out (f := 3) (by decide) HR'.out (x' := ⟨r.id, r.epoch, r.next, A', p.last.length, c'⟩) (v := .slice A' p.last.length c') rfl
      have hkeep : Hid (∀ b, w.heap.size < b → (w2.setCell ⟨w.heap.size, i * 4 + 3, none⟩ (.slice A' p.last.length c')).heap[b]? = w2.heap[b]?) := Lib.hid fun b hb => Below.heap_setCell w2 ⟨w.heap.size, i * 4 + 3, none⟩ _ b (by show b ≠ w.heap.size; omega)
      have HO3 := Lib.hid q1
      have HB3 := Lib.hid (HB2.out.setCell (p := ⟨w.heap.size, i * 4 + 3, none⟩) (Nat.le_refl _) (.slice A' p.last.length c'))
      have hs3 : w2.heap.size ≤ (w2.setCell ⟨w.heap.size, i * 4 + 3, none⟩ (.slice A' p.last.length c')).heap.size := by simp [World.setCell]
      have HLO3 : Hid (∀ (j : Nat) (x : PRaw) (q : Prd), j < i + 1 → (rw'.set i ⟨r.id, r.epoch, r.next, A', p.last.length, c'⟩)[j]? = some x → s[j]? = some q → RawOk (fun b => w.heap.size < b) (w2.setCell ⟨w.heap.size, i * 4 + 3, none⟩ (.slice A' p.last.length c')) x q) := Lib.hid (by
        intro j x q hj hx hq
        rw [List.getElem?_set] at hx
        split at hx
        · rename_i e
          subst e
          have hl2 := HLAST
          split at hx
          · injection hx with hx
            rw [HPS.out] at hq
            injection hq with hq
            subst hx hq
            exact ⟨HOK.out.1, HOK.out.2.1, HOK.out.2.2.1, rfl, hnew.out.keep hs3 fun b _ hb => hkeep.out b hb⟩
          · cases hx
        · rename_i e
          exact ((HLO.out j x q (by omega) hx hq).below hb2).keep hs3 fun b _ hb => hkeep.out b hb)
      have HHI3 : Hid (∀ j : Nat, i + 1 ≤ j → (rw'.set i ⟨r.id, r.epoch, r.next, A', p.last.length, c'⟩)[j]? = raw[j]?) := Lib.hid (by
        intro j hj
        rw [List.getElem?_set_ne (by omega)]
        exact HHI.out j (by omega))
      have HLEN3 : Hid ((rw'.set i ⟨r.id, r.epoch, r.next, A', p.last.length, c'⟩).length = s.length) := Lib.hid (by rw [List.length_set]; exact hlen.out)
      have hg2 : w.heap.size < w2.heap.size := by have := hb2.size; omega
      clear hown2 hb2 q1 q2 c3 f3 hs3
      go_wp2
      go_roundg (s.length - (i + 1))
      case measure => omega
      case rel => exact ⟨i + 1, rw'.set i ⟨r.id, r.epoch, r.next, A', p.last.length, c'⟩, by go_num, by omega, by omega, HLEN3, HO3, HLO3, HHI3, HB3⟩
    · have hltz : ¬ (i : Int) < (s.length : Int) := by omega
      obtain rfl : i = s.length := by omega
      go_wp2
      go_ret
      exact ⟨_, rw', rfl, HO.out, ⟨hlen.out, fun j r p hr hp => HLO.out j r p (List.getElem?_eq_some_iff.1 hp).1 hr hp⟩, rfl, HB.out⟩
end Go.Proofs.Ytghciaaedjomjaa
