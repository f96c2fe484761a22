/- intake: the known columns in memory; fits. -/
import Derived.Test.YtghciaaedjomjaaItkV
import Derived.Test.YtghciaaedjomjaaTake
namespace Go.Proofs.Ytghciaaedjomjaa
open Go.RowKit

structure CRaw where
  name : ByteArray
  ty : Int
  unit : ByteArray
instance : Inhabited CRaw := ⟨⟨⟨#[]⟩, 0, ⟨#[]⟩⟩⟩
def encC (v : CRaw) : List Value := [.string v.name, .int .i64 v.ty, .string v.unit]
theorem encC_len (v : CRaw) : (encC v).length = 3 := rfl
theorem encC_one (v : CRaw) : ∀ u ∈ encC v, u.oneCell' = true := by simp [encC, Value.oneCell']
structure KRaw where
  src : ByteArray
  sch : Int
  ca : Option Addr
  cn : Nat
  cc : Nat
instance : Inhabited KRaw := ⟨⟨⟨#[]⟩, 0, none, 0, 0⟩⟩
def encN (v : KRaw) : List Value := [.string v.src, .int .i64 v.sch, .slice v.ca v.cn v.cc]
theorem encN_len (v : KRaw) : (encN v).length = 3 := rfl
theorem encN_one (v : KRaw) : ∀ u ∈ encN v, u.oneCell' = true := by simp [encN, Value.oneCell']
theorem cellsC {w W : World} {b off : Nat} {l : List CRaw} (hx : ∀ j x, l[j]? = some x → ∀ i v, (encC x)[i]? = some v → w.cell? ⟨b, off + j * 3 + i, none⟩ = some v) (hb : b < w.heap.size) (hW : Below w.heap.size w W) {j : Nat} {x : CRaw} (hj : l[j]? = some x) :
    W.cell? ⟨b, off + j * 3, none⟩ = some (.string x.name) ∧ W.cell? ⟨b, off + j * 3 + 1, none⟩ = some (.int .i64 x.ty) ∧ W.cell? ⟨b, off + j * 3 + 2, none⟩ = some (.string x.unit) :=
  ⟨(hW.cell (p := ⟨_, _, none⟩) hb).trans (hx j x hj 0 _ rfl), (hW.cell (p := ⟨_, _, none⟩) hb).trans (hx j x hj 1 _ rfl), (hW.cell (p := ⟨_, _, none⟩) hb).trans (hx j x hj 2 _ rfl)⟩
theorem cellsN {w W : World} {b off : Nat} {l : List KRaw} (hx : ∀ j x, l[j]? = some x → ∀ i v, (encN x)[i]? = some v → w.cell? ⟨b, off + j * 3 + i, none⟩ = some v) (hb : b < w.heap.size) (hW : Below w.heap.size w W) {j : Nat} {x : KRaw} (hj : l[j]? = some x) :
    W.cell? ⟨b, off + j * 3, none⟩ = some (.string x.src) ∧ W.cell? ⟨b, off + j * 3 + 1, none⟩ = some (.int .i64 x.sch) ∧ W.cell? ⟨b, off + j * 3 + 2, none⟩ = some (.slice x.ca x.cn x.cc) :=
  ⟨(hW.cell (p := ⟨_, _, none⟩) hb).trans (hx j x hj 0 _ rfl), (hW.cell (p := ⟨_, _, none⟩) hb).trans (hx j x hj 1 _ rfl), (hW.cell (p := ⟨_, _, none⟩) hb).trans (hx j x hj 2 _ rfl)⟩
/-- A known source as it lies. -/
def KOk (P : Nat → Prop) (w : World) (r : KRaw) (k : KnV) : Prop := r.src = k.src ∧ r.sch = k.sch ∧ ∃ cr : List CRaw, cr.map (·.ty) = k.cols ∧ SlP P 3 encC w r.ca r.cn r.cc cr
def KnAt (P : Nat → Prop) (w : World) (A : Option Addr) (c : Nat) (ks : List KnV) : Prop :=
  ∃ raw : List KRaw, SlP P 3 encN w A ks.length c raw ∧ raw.length = ks.length ∧ ∀ (i : Nat) (r : KRaw) (k : KnV), raw[i]? = some r → ks[i]? = some k → KOk P w r k
section
variable {P Q : Nat → Prop} {w w' : World} {A : Option Addr} {c : Nat} {ks : List KnV}
theorem KOk.keep {r : KRaw} {k : KnV} (h : KOk P w r k) (hs : w.heap.size ≤ w'.heap.size) (hc : ∀ b, b < w.heap.size → P b → w'.heap[b]? = w.heap[b]?) : KOk P w' r k := by
  obtain ⟨h1, h2, cr, h3, h4⟩ := h
  exact ⟨h1, h2, cr, h3, h4.keep hs hc⟩
theorem KOk.mono {r : KRaw} {k : KnV} (h : KOk P w r k) (hpq : ∀ b, b < w.heap.size → P b → Q b) : KOk Q w r k := by
  obtain ⟨h1, h2, cr, h3, h4⟩ := h
  exact ⟨h1, h2, cr, h3, h4.mono hpq⟩
theorem KnAt.keep (h : KnAt P w A c ks) (hs : w.heap.size ≤ w'.heap.size) (hc : ∀ b, b < w.heap.size → P b → w'.heap[b]? = w.heap[b]?) : KnAt P w' A c ks := by
  obtain ⟨raw, h1, h2, h3⟩ := h
  exact ⟨raw, h1.keep hs hc, h2, fun i r k hr hk => (h3 i r k hr hk).keep hs hc⟩
theorem KnAt.mono (h : KnAt P w A c ks) (hpq : ∀ b, b < w.heap.size → P b → Q b) : KnAt Q w A c ks := by
  obtain ⟨raw, h1, h2, h3⟩ := h
  exact ⟨raw, h1.mono hpq, h2, fun i r k hr hk => (h3 i r k hr hk).mono hpq⟩
theorem KnAt.below (h : KnAt P w A c ks) (hb : Below w.heap.size w w') : KnAt P w' A c ks := h.keep hb.size fun b hlt _ => hb.block b hlt
end

theorem fits1_any (ksrc : ByteArray) (ksch : Int) (ca : Option Addr) (cn cc : Nat) (q : Nat) (src : ByteArray) (sch : Int) (w : World) (h4 : w.cell? ⟨q, 4, none⟩ = some (.string src)) (h5 : w.cell? ⟨q, 5, none⟩ = some (.int .i64 sch)) (hq : q < w.heap.size) :
    Calls Try.prog 55 #[.agg #[.string ksrc, .int .i64 ksch, .slice ca cn cc], .pointer (some ⟨q, 0, none⟩)] w fun e w' => e = .returned (.bool (ksrc.toList == src.toList && ksch == sch)) ∧ Below w.heap.size w w' := by
  cases h : (ksrc.toList == src.toList)
  · go_enter Try.func55, Try.ntmps55
    go_wp2
    go_ret
    exact ⟨rfl, (Below.refl _ _).alloc (Nat.le_refl _) _⟩
  · go_enter Try.func55, Try.ntmps55
    go_wp2
    go_ret
    exact ⟨by simp, (Below.refl _ _).alloc (Nat.le_refl _) _⟩
theorem fits2_any (a b : Int) (s name : ByteArray) (ty : Int) (unit : ByteArray) (w : World) :
    Calls Try.prog 57 #[.agg #[.int .i64 a, .int .i64 b, .string s], .agg #[.string name, .int .i64 ty, .string unit]] w fun e w' => e = .returned (.bool (a == ty)) ∧ Below w.heap.size w w' := by
  go_enter Try.func57, Try.ntmps57
  go_wp2
  go_ret
  exact ⟨rfl, ((Below.refl _ w).alloc (Nat.le_refl _) _).alloc (by simp) _⟩

/-- The first place of a source. -/
def idxN (s : List KRaw) (src : ByteArray) (sch : Int) : Int := match s.findIdx? (fun r => r.src.toList == src.toList && r.sch == sch) with | some i => (i : Int) | none => -1
theorem idxN_hit (l : List KRaw) (src : ByteArray) (sch : Int) (k : Nat) (x : KRaw) (hx : l[k]? = some x) (h : (x.src.toList == src.toList && x.sch == sch) = true) (hb : ∀ (j : Nat) (y : KRaw), j < k → l[j]? = some y → (y.src.toList == src.toList && y.sch == sch) = false) : idxN l src sch = k := by
  have : l.findIdx? (fun r => r.src.toList == src.toList && r.sch == sch) = some k := by
    rw [List.findIdx?_eq_some_iff_getElem]
    obtain ⟨hk, rfl⟩ := List.getElem?_eq_some_iff.1 hx
    exact ⟨hk, h, fun j hj => by rw [hb j l[j] hj (List.getElem?_eq_getElem _)]; simp⟩
  simp [idxN, this]
theorem idxN_miss (l : List KRaw) (src : ByteArray) (sch : Int) (hb : ∀ (j : Nat) (y : KRaw), l[j]? = some y → (y.src.toList == src.toList && y.sch == sch) = false) : idxN l src sch = -1 := by
  have : l.findIdx? (fun r => r.src.toList == src.toList && r.sch == sch) = none := by
    rw [List.findIdx?_eq_none_iff]
    intro x hx
    obtain ⟨j, hj, rfl⟩ := List.mem_iff_getElem.1 hx
    exact hb j _ (List.getElem?_eq_getElem hj)
  simp [idxN, this]
theorem findIdx_same {raw : List KRaw} {ks : List KnV} (hl : raw.length = ks.length) (h : ∀ (i : Nat) (r : KRaw) (k : KnV), raw[i]? = some r → ks[i]? = some k → r.src = k.src ∧ r.sch = k.sch) (src : ByteArray) (sch : Int) :
    raw.findIdx? (fun r => r.src.toList == src.toList && r.sch == sch) = ks.findIdx? (fun k => k.src.toList == src.toList && k.sch == sch) := by
  induction raw generalizing ks with
  | nil => obtain rfl : ks = [] := List.eq_nil_of_length_eq_zero hl.symm; rfl
  | cons r raw ih =>
    cases ks with
    | nil => simp at hl
    | cons k ks =>
      obtain ⟨e1, e2⟩ := h 0 r k rfl rfl
      rw [List.findIdx?_cons, List.findIdx?_cons, e1, e2, ih (by simpa using hl) (fun i r k hr hk => h (i + 1) r k hr hk)]
theorem idxN_known {P : Nat → Prop} {w : World} {A : Option Addr} {c : Nat} {ks : List KnV} {raw : List KRaw} (hl : raw.length = ks.length) (h : ∀ (i : Nat) (r : KRaw) (k : KnV), raw[i]? = some r → ks[i]? = some k → KOk P w r k) (src : ByteArray) (sch : Int) :
    (idxN raw src sch = -1 ∧ knownIdx ks src sch = none) ∨ ∃ (i : Nat) (r : KRaw) (k : KnV), idxN raw src sch = i ∧ knownIdx ks src sch = some i ∧ raw[i]? = some r ∧ ks[i]? = some k ∧ i < ks.length := by
  have e := findIdx_same hl (fun i r k hr hk => ⟨(h i r k hr hk).1, (h i r k hr hk).2.1⟩) src sch
  unfold idxN knownIdx
  rw [e]
  cases hf : ks.findIdx? (fun k => k.src.toList == src.toList && k.sch == sch) with
  | none => exact .inl ⟨rfl, rfl⟩
  | some i =>
    obtain ⟨hi, _, _⟩ := List.findIdx?_eq_some_iff_getElem.1 hf
    exact .inr ⟨i, _, _, rfl, rfl, List.getElem?_eq_getElem (by omega), List.getElem?_eq_getElem hi, hi⟩

set_option maxHeartbeats 1000000 in
theorem indexN_any (q : Nat) (src : ByteArray) (sch : Int) (A : Option Addr) (n c : Nat) (l : List KRaw) (w : World) (hr : SlT 3 encN w A n c l) (hn : n ≤ 1000000) (hq : q < w.heap.size) (h4 : w.cell? ⟨q, 4, none⟩ = some (.string src)) (h5 : w.cell? ⟨q, 5, none⟩ = some (.int .i64 sch)) :
    Calls Try.prog 54 #[.slice A n c, .func (.func 55) #[] #[.pointer (some ⟨q, 0, none⟩)]] w fun e w' => e = .returned (.int .i64 (idxN l src sch)) ∧ Below w.heap.size w w' := by
  have hl := hr.1
  rcases Nat.eq_zero_or_pos n with h0 | h0
  · subst h0
    obtain rfl : l = [] := List.eq_nil_of_length_eq_zero hl
    clear hr hl h4 h5
    go_enter Try.func54, Try.ntmps54
    go_wp2
    refine wp_loop_rounds 1 ?_
    rw [rounds_succ]
    go_wp2
    go_ret
    exact ⟨rfl, Below.refl _ _⟩
  · obtain ⟨b, off, rfl, hb, hx⟩ := hr.2.2 h0
    have HX := Lib.hid hx
    have HL := Lib.hid hl
    have HQ4 := Lib.hid h4
    have HQ5 := Lib.hid h5
    have eg : ∀ args w, (callFunc 55 args).run Try.prog w = .ok (.enter 55 args) w := fun _ _ => by kernel_rfl
    clear hr hl hx h4 h5
    go_enter Try.func54, Try.ntmps54
    go_wp2
    go_loopg [5, 8] n (fun gg _ s8 wr => ∃ kk : Nat, kk ≤ n ∧ n - kk ≤ gg ∧ s8 = .int .i64 kk ∧ Hid (Below w.heap.size w wr) ∧ Hid (∀ (j : Nat) (y : KRaw), j < kk → l[j]? = some y → (y.src.toList == src.toList && y.sch == sch) = false))
    case atStart => exact ⟨0, Nat.zero_le _, by omega, rfl, Below.refl _ w, fun j y hj => absurd hj (Nat.not_lt_zero _)⟩
    case round =>
      obtain ⟨kk, hkk, hg, rfl, BW, A⟩ := hrel
      by_cases hlt : kk < n
      · have hltz : (kk : Int) < (n : Int) := by omega
        obtain ⟨x, hj⟩ : ∃ x, l[kk]? = some x := ⟨_, List.getElem?_eq_getElem (by rw [HL.out]; exact hlt)⟩
        obtain ⟨c0, c1, c2⟩ := cellsN HX.out hb BW.out hj
        have HJ := Lib.hid hj
        have HC : Hid (Calls Try.prog 55 #[.agg #[.string x.src, .int .i64 x.sch, .slice x.ca x.cn x.cc], .pointer (some ⟨q, 0, none⟩)] wr fun e w' => e = .returned (.bool (x.src.toList == src.toList && x.sch == sch)) ∧ Below wr.heap.size wr w') :=
          fits1_any x.src x.sch x.ca x.cn x.cc q src sch wr ((BW.out.cell (p := ⟨q, 4, none⟩) hq).trans HQ4.out) ((BW.out.cell (p := ⟨q, 5, none⟩) hq).trans HQ5.out) (Nat.lt_of_lt_of_le hq BW.out.size)
        clear hj
        cases hp : (x.src.toList == src.toList && x.sch == sch) with
        | true =>
          rw [hp] at HC
          have HP := Lib.hid hp
          clear hp
          go_wp2_with fail
          refine HC.out.mono ?_
          rintro e w' ⟨rfl, hb'⟩
          go_wp2
          go_ret
          refine ⟨?_, BW.out.trans (hb'.mono BW.out.size)⟩
          rw [idxN_hit l src sch kk x HJ.out HP.out A.out]
          rfl
        | false =>
          rw [hp] at HC
          have HP := Lib.hid hp
          clear hp
          go_wp2_with fail
          refine HC.out.mono ?_
          rintro e w' ⟨rfl, hb'⟩
          go_wp2
          go_roundg (n - (kk + 1))
          case measure => omega
          case rel =>
            refine ⟨kk + 1, by omega, by omega, by go_num, BW.out.trans (hb'.mono BW.out.size), (show Hid _ from fun j y hj hy => ?_)⟩
            by_cases e : j = kk
            · subst e
              have := HJ.out.symm.trans hy
              injection this with this
              rw [← this]
              exact HP.out
            · exact A.out j y (by omega) hy
      · have hltz : ¬ (kk : Int) < (n : Int) := by omega
        have : kk = n := by omega
        subst this
        go_wp2
        go_ret
        refine ⟨?_, BW.out⟩
        rw [idxN_miss l src sch (fun j y hy => A.out j y (by have := (List.getElem?_eq_some_iff.1 hy).1; have := HL.out; omega) hy)]
        rfl
theorem zip_all_false {vs : List VVal} {cs : List CRaw} {k : Nat} {x : VVal} {y : CRaw} (hx : vs[k]? = some x) (hy : cs[k]? = some y) (h : (x.kind == y.ty) = false) : ((vs.zip (cs.map (·.ty))).all fun z => z.1.kind == z.2) = false := by
  rw [List.all_eq_false]
  refine ⟨(x, y.ty), ?_, by simpa using h⟩
  refine List.mem_of_getElem? (i := k) ?_
  rw [List.getElem?_zip_eq_some]
  exact ⟨hx, by rw [List.getElem?_map, hy]; rfl⟩
theorem zip_all_true {vs : List VVal} {cs : List CRaw} (h : ∀ (k : Nat) (x : VVal) (y : CRaw), vs[k]? = some x → cs[k]? = some y → (x.kind == y.ty) = true) : ((vs.zip (cs.map (·.ty))).all fun z => z.1.kind == z.2) = true := by
  rw [List.all_eq_true]
  intro z hz
  obtain ⟨k, hk⟩ := List.getElem?_of_mem hz
  rw [List.getElem?_zip_eq_some, List.getElem?_map] at hk
  obtain ⟨h1, h2⟩ := hk
  obtain ⟨y, hy, e⟩ := Option.map_eq_some_iff.1 h2
  rw [← e]
  exact h k _ y h1 hy
set_option maxHeartbeats 1000000 in
theorem equalV_any (A : Option Addr) (n c : Nat) (vs : List VVal) (B : Option Addr) (m d : Nat) (cs : List CRaw) (w : World) (hr : SlT 3 encV w A n c vs) (hs : SlT 3 encC w B m d cs) (hn : n ≤ 1000000) :
    Calls Try.prog 56 #[.slice A n c, .slice B m d, .func (.func 57) #[] #[]] w fun e w' => e = .returned (.bool (fitsCols vs (cs.map (·.ty)))) ∧ Below w.heap.size w w' := by
  have HL := Lib.hid hr.1
  have HM := Lib.hid hs.1
  have HR := Lib.hid hr
  have HS := Lib.hid hs
  clear hr hs
  by_cases hnm : n = m
  · subst hnm
    have hne : ((n : Int) != (n : Int)) = false := by simp
    have eg : ∀ args w, (callFunc 57 args).run Try.prog w = .ok (.enter 57 args) w := fun _ _ => by kernel_rfl
    go_enter Try.func56, Try.ntmps56
    go_wp2
    go_loopg [7, 8, 9, 17] n (fun gg _ _ _ s17 wr => ∃ kk : Nat, kk ≤ n ∧ n - kk ≤ gg ∧ s17 = .int .i64 kk ∧ Hid (Below w.heap.size w wr) ∧ Hid (∀ (j : Nat) (x : VVal) (y : CRaw), j < kk → vs[j]? = some x → cs[j]? = some y → (x.kind == y.ty) = true))
    case atStart => exact ⟨0, Nat.zero_le _, by omega, rfl, Below.refl _ w, fun j x y hj => absurd hj (Nat.not_lt_zero _)⟩
    case round =>
      obtain ⟨kk, hkk, hg, rfl, BW, HA⟩ := hrel
      by_cases hlt : kk < n
      · have hltz : (kk : Int) < (n : Int) := by omega
        obtain ⟨b1, o1, rfl, hb1, hx1⟩ := HR.out.2.2 (by omega)
        obtain ⟨b2, o2, rfl, hb2, hx2⟩ := HS.out.2.2 (by omega)
        obtain ⟨x, hx⟩ : ∃ x, vs[kk]? = some x := ⟨_, List.getElem?_eq_getElem (by rw [HL.out]; exact hlt)⟩
        obtain ⟨y, hy⟩ : ∃ y, cs[kk]? = some y := ⟨_, List.getElem?_eq_getElem (by rw [HM.out]; exact hlt)⟩
        obtain ⟨c0, c1, c2⟩ := cellsV hx1 hb1 BW.out hx
        obtain ⟨d0, d1, d2⟩ := cellsC hx2 hb2 BW.out hy
        have hb1w : b1 < wr.heap.size := Nat.lt_of_lt_of_le hb1 BW.out.size
        have hb2w : b2 < wr.heap.size := Nat.lt_of_lt_of_le hb2 BW.out.size
        have hb2w' : b2 < wr.heap.size + 1 := by omega
        have HX := Lib.hid hx
        have HY := Lib.hid hy
        have HBA := Lib.hid ((BW.out.alloc BW.out.size (.cells #[.int .i64 x.kind, .int .i64 x.n, .string x.s] 77)).alloc (Nat.le_trans BW.out.size (by simp)) (.cells #[.string y.name, .int .i64 y.ty, .string y.unit] 72))
        clear hx hy hx1 hx2
        cases hp : (x.kind == y.ty) with
        | true =>
          have HP := Lib.hid hp
          go_wp2_with fail
          refine (fits2_any _ _ _ _ _ _ _).mono ?_
          rintro e w' ⟨rfl, hb'⟩
          rw [HP.out]
          go_wp2
          go_roundg (n - (kk + 1))
          case measure => omega
          case rel =>
            refine ⟨kk + 1, by omega, by omega, by go_num, HBA.out.trans (hb'.mono HBA.out.size), (show Hid _ from fun j x' y' hj hx' hy' => ?_)⟩
            by_cases e : j = kk
            · subst e
              have e1 := HX.out.symm.trans hx'
              have e2 := HY.out.symm.trans hy'
              injection e1 with e1
              injection e2 with e2
              rw [← e1, ← e2]
              exact HP.out
            · exact HA.out j x' y' (by omega) hx' hy'
        | false =>
          have HP := Lib.hid hp
          go_wp2_with fail
          refine (fits2_any _ _ _ _ _ _ _).mono ?_
          rintro e w' ⟨rfl, hb'⟩
          rw [HP.out]
          go_wp2
          go_ret
          exact ⟨ret_bool (by unfold fitsCols; rw [zip_all_false HX.out HY.out HP.out]; simp), HBA.out.trans (hb'.mono HBA.out.size)⟩
      · have hltz : ¬ (kk : Int) < (n : Int) := by omega
        have : kk = n := by omega
        subst this
        go_wp2
        go_ret
        refine ⟨ret_bool ?_, BW.out⟩
        unfold fitsCols
        rw [zip_all_true (fun j x y hx hy => HA.out j x y (by have := (List.getElem?_eq_some_iff.1 hx).1; have := HL.out; omega) hx hy)]
        simp [HL.out, HM.out]
  · have hne : ((n : Int) != (m : Int)) = true := by simp; omega
    go_enter Try.func56, Try.ntmps56
    go_wp2
    go_ret
    exact ⟨ret_bool (by unfold fitsCols; rw [HL.out, List.length_map, HM.out]; simp [hnm]), Below.refl _ _⟩

def FitsPost (w : World) (n : Int) (e : Ending) (w' : World) : Prop := e = .returned (.int .i64 n) ∧ Below w.heap.size w w'
set_option maxHeartbeats 2000000 in
set_option maxRecDepth 100000 in
theorem fits_any (P : Nat → Prop) (p : Nat) (ka : Option Addr) (kc : Nat) (ks : List KnV) (kind id ep sq : Int) (src : ByteArray) (sch tm : Int) (ra : Option Addr) (rn rc : Nat) (vs : List VVal) (w : World)
    (hp : p < w.heap.size) (h6 : w.cell? ⟨p, 6, none⟩ = some (.slice ka ks.length kc)) (hk : KnAt P w ka kc ks) (hkn : ks.length ≤ 1000) (hr : SlT 3 encV w ra rn rc vs) (hn : rn ≤ 1000000) :
    Calls Try.prog 52 #[.pointer (some ⟨p, 0, none⟩), .agg #[.int .i64 kind, .int .i64 id, .int .i64 ep, .int .i64 sq, .string src, .int .i64 sch, .int .i64 tm, .slice ra rn rc]] w (FitsPost w (fitsF ks src sch vs)) := by
  obtain ⟨raw, hk1, hk2, hk3⟩ := hk
  have HK1 := Lib.hid hk1
  have HK3 := Lib.hid hk3
  have HR := Lib.hid hr
  have HKB := Lib.hid (Blk.new w 36 #[.int .i64 kind, .int .i64 id, .int .i64 ep, .int .i64 sq, .string src, .int .i64 sch, .int .i64 tm, .slice ra rn rc])
  have HB0 : Hid (Below w.heap.size w (w.alloc (.cells #[.int .i64 kind, .int .i64 id, .int .i64 ep, .int .i64 sq, .string src, .int .i64 sch, .int .i64 tm, .slice ra rn rc] 36))) := Lib.hid ((Below.refl _ w).alloc (Nat.le_refl _) _)
  have hmf : ∀ (fn : Fn) (first cap : Array Value) (w : World), (Instr.makeFunc fn first cap).run Try.prog w = .ok (.func fn first cap) w := fun _ _ _ _ => rfl
  have HC := Lib.hid (idxN_known (A := ka) (c := kc) hk2 hk3 src sch)
  clear hk1 hk3 hr
  go_enter Try.func52, Try.ntmps52
  go_wp2_with fail
  refine (indexN_any w.heap.size src sch ka ks.length kc raw _ (HK1.out.1.below HB0.out) (by omega) (by simp) HKB.out.eight.2.2.2.2.1 HKB.out.eight.2.2.2.2.2.1).mono ?_
  rintro e w1 ⟨rfl, hb1⟩
  have HB1 := Lib.hid (HB0.out.trans (hb1.mono HB0.out.size))
  have HKB1 := Lib.hid (HKB.out.below hb1 HKB.out.lt)
  clear hb1 hmf
  rcases HC.out with ⟨hi, hkn⟩ | ⟨i, x, k, hi, hkn, hx, hkx, hil⟩
  · rw [hi]
    have HF : Hid (fitsF ks src sch vs = 17) := Lib.hid (by unfold fitsF; rw [hkn])
    clear hi hkn h6
    go_wp2
    go_ret
    exact ⟨ret_int HF.out.symm, HB1.out⟩
  · rw [hi]
    obtain ⟨_, _, cr, hcr, hcs⟩ := HK3.out i x k hx hkx
    have HF : Hid (fitsF ks src sch vs = if fitsCols vs (cr.map (·.ty)) && rightRow vs then 0 else 16) := Lib.hid (by
      unfold fitsF
      rw [hkn]
      simp only
      rw [getElem!_pos ks i hil, (List.getElem?_eq_some_iff.1 hkx).2, hcr])
    obtain ⟨kb, ko, rfl, hkb, hkc⟩ := HK1.out.1.2.2 (by omega)
    obtain ⟨c0, c1, c2⟩ := cellsN hkc hkb HB1.out hx
    have HCS := Lib.hid (hcs.1.below HB1.out)
    have HR1 := Lib.hid (HR.out.below HB1.out)
    have hib : (i : Int) < (ks.length : Int) := by omega
    have hin : i < ks.length := hil
    have hi0 : (0 : Int) ≤ (i : Int) := by omega
    have hne : ¬ ((i : Int) < 0) := by omega
    have hneb : decide ((i : Int) < 0) = false := decide_eq_false hne
    have hw : IntKind.i64.wrap (i : Int) = (i : Int) := by rw [IntKind.wrap_i64]; omega
    have hkbw : kb < w1.heap.size := Nat.lt_of_lt_of_le hkb HB1.out.size
    have hpw : p < w1.heap.size := Nat.lt_of_lt_of_le hp HB1.out.size
    have h6' : w1.cell? ⟨p, 6, none⟩ = some (.slice (some ⟨kb, ko, none⟩) ks.length kc) := (HB1.out.cell (p := ⟨p, 6, none⟩) hp).trans h6
    obtain ⟨z0, z1, z2, z3, z4, z5, z6, z7⟩ := HKB1.out.eight
    clear hi hkn hx hkx hil hcr hcs hkc hkb c0 c1 h6 hk2 HKB HB0 z0 z1 z2 z3 z4 z5 z6 hp
    have HK6 := Lib.hid h6'
    have HK2 := Lib.hid c2
    have HZ := Lib.hid z7
    go_wp2_with fail
    refine wp_region_noPanic ?_
    refine wp_region_held_drew (S := fun w' => w'.cell? ⟨w.heap.size, 7, none⟩ = some (.slice ra rn rc) ∧ w'.cell? ⟨p, 6, none⟩ = some (.slice (some ⟨kb, ko, none⟩) ks.length kc) ∧ w'.cell? ⟨kb, ko + i * 3 + 2, none⟩ = some (.slice x.ca x.cn x.cc)) (by kernel_rfl) ?_ (fun hHeld => ?_)
    · first | exact ⟨by assumption, by assumption⟩ | go_keep
    refine take_yes (i := 0) (some 15) (v := ?v0) (by simp only [List.getElem?_toArray, List.getElem?_cons_zero]; exact rfl) rfl (by kernel_rfl) (by kernel_rfl) (by kernel_rfl) (fun _ _ _ h => h) (by rfl) ?hy0 (by assumption) ?rest0
    case hy0 => (intro w hSw; (try dsimp only at hSw); go_simp; try with_reducible rfl)
    try simp only [Act.put, List.setIfInBounds_toArray, List.set_cons_zero, List.set_cons_succ]
    refine take_yes (i := 1) (some 16) (v := ?v1) (by simp only [List.getElem?_toArray, List.getElem?_cons_succ, List.getElem?_cons_zero]; exact rfl) rfl (by kernel_rfl) (by kernel_rfl) (by kernel_rfl) (fun _ _ _ h => h) (by rfl) ?hy1 (by assumption) ?rest1
    case hy1 => (intro w hSw; (try dsimp only at hSw); go_simp; try with_reducible rfl)
    try simp only [Act.put, List.setIfInBounds_toArray, List.set_cons_zero, List.set_cons_succ]
    refine take_yes (i := 2) (some 17) (v := ?v2) (by simp only [List.getElem?_toArray, List.getElem?_cons_succ, List.getElem?_cons_zero]; exact rfl) rfl (by kernel_rfl) (by kernel_rfl) (by kernel_rfl) (fun _ _ _ h => h) (by rfl) ?hy2 (by assumption) ?rest2
    case hy2 => (intro w hSw; (try dsimp only at hSw); go_simp; try with_reducible rfl)
    try simp only [Act.put, List.setIfInBounds_toArray, List.set_cons_zero, List.set_cons_succ]
    refine take_yes (i := 3) (some 18) (v := ?v3) (by simp only [List.getElem?_toArray, List.getElem?_cons_succ, List.getElem?_cons_zero]; exact rfl) rfl (by kernel_rfl) (by kernel_rfl) (by kernel_rfl) (fun _ _ _ h => h) (by rfl) ?hy3 (by assumption) ?rest3
    case hy3 => (intro w hSw; (try dsimp only at hSw); go_simp; try with_reducible rfl)
    try simp only [Act.put, List.setIfInBounds_toArray, List.set_cons_zero, List.set_cons_succ]
    refine take_yes (i := 4) (some 19) (v := ?v4) (by simp only [List.getElem?_toArray, List.getElem?_cons_succ, List.getElem?_cons_zero]; exact rfl) rfl (by kernel_rfl) (by kernel_rfl) (by kernel_rfl) (fun _ _ _ h => h) (by rfl) ?hy4 (by assumption) ?rest4
    case hy4 => (intro w hSw; (try dsimp only at hSw); go_simp; try with_reducible rfl)
    try simp only [Act.put, List.setIfInBounds_toArray, List.set_cons_zero, List.set_cons_succ]
    refine take_yes (i := 5) (some 20) (v := ?v5) (by simp only [List.getElem?_toArray, List.getElem?_cons_succ, List.getElem?_cons_zero]; exact rfl) rfl (by kernel_rfl) (by kernel_rfl) (by kernel_rfl) (fun _ _ _ h => h) (by rfl) ?hy5 (by assumption) ?rest5
    case hy5 => (intro w hSw; (try dsimp only at hSw); go_simp; try with_reducible rfl)
    try simp only [Act.put, List.setIfInBounds_toArray, List.set_cons_zero, List.set_cons_succ]
    refine take_yes (i := 6) (some 21) (v := ?v6) (by simp only [List.getElem?_toArray, List.getElem?_cons_succ, List.getElem?_cons_zero]; exact rfl) rfl (by kernel_rfl) (by kernel_rfl) (by kernel_rfl) (fun _ _ _ h => h) (by rfl) ?hy6 (by assumption) ?rest6
    case hy6 => (intro w hSw; (try dsimp only at hSw); go_simp; try with_reducible rfl)
    try simp only [Act.put, List.setIfInBounds_toArray, List.set_cons_zero, List.set_cons_succ]
    refine take_yes (i := 7) (some 22) (v := ?v7) (by simp only [List.getElem?_toArray, List.getElem?_cons_succ, List.getElem?_cons_zero]; exact rfl) rfl (by kernel_rfl) (by kernel_rfl) (by kernel_rfl) (fun _ _ _ h => h) (by rfl) ?hy7 (by assumption) ?rest7
    case hy7 => (intro w hSw; (try dsimp only at hSw); go_simp; try with_reducible rfl)
    try simp only [Act.put, List.setIfInBounds_toArray, List.set_cons_zero, List.set_cons_succ]
    refine take_yes (i := 8) (some 23) (v := ?v8) (by simp only [List.getElem?_toArray, List.getElem?_cons_succ, List.getElem?_cons_zero]; exact rfl) rfl (by kernel_rfl) (by kernel_rfl) (by kernel_rfl) (fun _ _ _ h => h) (by rfl) ?hy8 (by assumption) ?rest8
    case hy8 => (intro w hSw; (try dsimp only at hSw); go_simp; try with_reducible rfl)
    try simp only [Act.put, List.setIfInBounds_toArray, List.set_cons_zero, List.set_cons_succ]
    refine take_yes (i := 9) (some 24) (v := ?v9) (by simp only [List.getElem?_toArray, List.getElem?_cons_succ, List.getElem?_cons_zero]; exact rfl) rfl (by kernel_rfl) (by kernel_rfl) (by kernel_rfl) (fun _ _ _ h => h) (by rfl) ?hy9 (by assumption) ?rest9
    case hy9 => (intro w hSw; (try dsimp only at hSw); go_simp; try with_reducible rfl)
    try simp only [Act.put, List.setIfInBounds_toArray, List.set_cons_zero, List.set_cons_succ]
    refine wpAnyH_ready (rs := [10]) (by kernel_rfl) (by simp) ?_
    refine AllReadyH.cons rfl (fun K hK => ?_) AllReadyH.nil
    go_simp
    go_wp2_with (go_at_call 56; refine (equalV_any ra rn rc vs x.ca x.cn x.cc cr _ (HR1.out.below (Below.refl _ _).drew) (HCS.out.below (Below.refl _ _).drew) hn).mono ?_; rintro e w7 ⟨rfl, hb7⟩; have HB7 : Hid (Below w1.heap.size w1 w7) := Lib.hid ((Below.refl w1.heap.size w1).drew.trans hb7); have y7 : w7.cell? ⟨w.heap.size, 7, none⟩ = some (.slice ra rn rc) := (HB7.out.cell (p := ⟨_, _, none⟩) HKB1.out.lt).trans HZ.out; have y6 : w7.cell? ⟨p, 6, none⟩ = some (.slice (some ⟨kb, ko, none⟩) ks.length kc) := (HB7.out.cell (p := ⟨_, _, none⟩) hpw).trans HK6.out; have y2 : w7.cell? ⟨kb, ko + i * 3 + 2, none⟩ = some (.slice x.ca x.cn x.cc) := (HB7.out.cell (p := ⟨_, _, none⟩) hkbw).trans HK2.out; clear hb7)
    refine hK.out _ _ ?_ (fun hHeld => ?_)
    · go_keep
    clear hK K
    try simp only [Act.put, List.setIfInBounds_toArray, List.set_cons_zero, List.set_cons_succ]
    refine take_yes (i := 11) (some 6) (v := ?v11) (by simp only [List.getElem?_toArray, List.getElem?_cons_succ, List.getElem?_cons_zero]; exact rfl) rfl (by kernel_rfl) (by kernel_rfl) (by kernel_rfl) (fun _ _ _ h => h) (by rfl) ?hy11 (by assumption) ?rest11
    case hy11 => (intro w hSw; (try dsimp only at hSw); go_simp; try with_reducible rfl)
    try simp only [Act.put, List.setIfInBounds_toArray, List.set_cons_zero, List.set_cons_succ]
    refine wpAnyH_done (by kernel_rfl) ?_ _
    refine NoPanic.normal ?_
    cases hF : fitsCols vs (cr.map (·.ty)) with
    | false =>
      go_wp2
      go_ret
      exact ⟨ret_int (by rw [HF.out, hF]; rfl), HB1.out.trans (HB7.out.mono HB1.out.size)⟩
    | true =>
      go_wp2_with fail
      refine (rightRow_any ra rn rc vs _ (HR1.out.below HB7.out) hn).mono ?_
      rintro e w8 ⟨rfl, hb8⟩
      have HB8 : Hid (Below w.heap.size w w8) := Lib.hid ((HB1.out.trans (HB7.out.mono HB1.out.size)).trans (hb8.mono (Nat.le_trans HB1.out.size HB7.out.size)))
      clear hb8
      cases hG : rightRow vs with
      | false =>
        go_wp2
        go_ret
        exact ⟨ret_int (by rw [HF.out, hF, hG]; rfl), HB8.out⟩
      | true =>
        go_wp2
        go_ret
        exact ⟨ret_int (by rw [HF.out, hF, hG]; rfl), HB8.out⟩
end Go.Proofs.Ytghciaaedjomjaa
