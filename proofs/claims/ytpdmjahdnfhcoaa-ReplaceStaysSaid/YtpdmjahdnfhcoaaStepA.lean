/- step. -/
import Derived.Test.YtpdmjahdnfhcoaaRepH
import Derived.Deep.RegionHeld3
namespace Go.Proofs.Ytpdmjahdnfhcoaa
open Go.RowKit

/-- What step does to a list and a timeline, and answers. -/
structure St where
  l : List Rep
  t : List Seg
structure OpD where
  dO : Int
  no : Int
  frm : Int
  ver : Int
  back : Int
  hor : Int
  raise : Bool
def and7 (x : Int) : Int := bits .and .i64 x 7
def stepF (s : St) (o : OpD) : St × Int × Int :=
  if and7 o.dO = 0 ∨ and7 o.dO = 1 then
    let r := askF s.l o.frm o.ver o.back o.hor o.raise
    (if r.2.2 = 0 then ⟨r.1, s.t⟩ else s, r.2.1, r.2.2)
  else if and7 o.dO = 2 then
    let r := setF s.l o.no 4
    (if r.2 = 0 then ⟨r.1, s.t⟩ else s, 0, r.2)
  else if and7 o.dO = 3 then
    let r := setF s.l o.no (cst o.raise)
    (if r.2 = 0 then ⟨r.1, s.t⟩ else s, 0, r.2)
  else
    let r := cutF s.l s.t o.no
    (if r.2.2 = 0 then ⟨r.1, r.2.1⟩ else s, 0, r.2.2)

/-- A state: a block of two slices. -/
def StAt (w : World) (g : Nat) (s : St) : Prop :=
  ∃ A c A2 c2, Blk w g 30 #[.slice A s.l.length c, .slice A2 s.t.length c2] ∧ SlT 6 encR w A s.l.length c s.l ∧ SlT 2 encS w A2 s.t.length c2 s.t
def StepPost (w : World) (g : Nat) (r : St × Int × Int) (e : Ending) (w' : World) : Prop :=
  e = .returned (.tuple #[.int .i64 r.2.1, .int .i64 r.2.2]) ∧ StAt w' g r.1 ∧ w.grownBy w' (some g)

theorem sltR_ne {w : World} {g : Nat} {T : TypeId} {A : Option Addr} {n c : Nat} {l : List Rep} {a1 a2 : Option Addr} {n1 c1 n2 c2 : Nat} (h : SlT 6 encR w A n c l) (hB : Blk w g T #[.slice a1 n1 c1, .slice a2 n2 c2]) : ∀ b off, A = some ⟨b, off, none⟩ → 0 < n → b ≠ g := by
  rintro b off rfl h0 rfl
  obtain ⟨b', off', e, _, hx⟩ := h.2.2 h0
  injection e with e
  injection e with e1 e2
  subst e1 e2
  have hl := h.1
  have h1 := hx 0 l[0] (List.getElem?_eq_getElem (by omega)) 0 _ rfl
  rw [hB.cell] at h1
  rcases off with _ | _ | off <;> simp at h1
theorem sltS_ne {w : World} {g : Nat} {T : TypeId} {A : Option Addr} {n c : Nat} {l : List Seg} {a1 a2 : Option Addr} {n1 c1 n2 c2 : Nat} (h : SlT 2 encS w A n c l) (hB : Blk w g T #[.slice a1 n1 c1, .slice a2 n2 c2]) : ∀ b off, A = some ⟨b, off, none⟩ → 0 < n → b ≠ g := by
  rintro b off rfl h0 rfl
  obtain ⟨b', off', e, _, hx⟩ := h.2.2 h0
  injection e with e
  injection e with e1 e2
  subst e1 e2
  have hl := h.1
  have h1 := hx 0 l[0] (List.getElem?_eq_getElem (by omega)) 0 _ rfl
  rw [hB.cell] at h1
  rcases off with _ | _ | off <;> simp at h1
/-- A list and a timeline written into a state. -/
theorem st_store {w : World} {g : Nat} {v u a1 a2 : Value} {l : List Rep} {t : List Seg} (hB : ∃ A c A2 c2 n m, a1 = .slice A n c ∧ a2 = .slice A2 m c2 ∧ Blk w g 30 #[a1, a2]) (hv : SlV 6 encR w v l) (hu : SlV 2 encS w u t) :
    StAt ((w.setCell ⟨g, 0, none⟩ v).setCell ⟨g, 1, none⟩ u) g ⟨l, t⟩ := by
  obtain ⟨A, c, A2, c2, n, m, rfl, rfl, hB⟩ := hB
  obtain ⟨A', c', rfl, hl⟩ := hv
  obtain ⟨A2', c2', rfl, ht⟩ := hu
  have hg : w.grownBy ((w.setCell ⟨g, 0, none⟩ (.slice A' l.length c')).setCell ⟨g, 1, none⟩ (.slice A2' t.length c2')) (some g) :=
    only_setCell (only_setCell (World.grownBy.refl w _) (p := ⟨g, 0, none⟩) (.inl rfl) _) (p := ⟨g, 1, none⟩) (.inl rfl) _
  exact ⟨A', c', A2', c2', (hB.set_ 0 _).set_ 1 _, hl.grown hg (sltR_ne hl hB), ht.grown hg (sltS_ne ht hB)⟩

set_option maxHeartbeats 2000000 in
set_option maxRecDepth 100000 in
theorem step_ask (g : Nat) (s : St) (o : OpD) (w : World) (hs : StAt w g s) (hn : s.l.length ≤ 1000) (h01 : and7 o.dO = 0) :
    Calls Try.prog 8 #[.pointer (some ⟨g, 0, none⟩), .agg #[.int .i64 o.dO, .int .i64 o.no, .int .i64 o.frm, .int .i64 o.ver, .int .i64 o.back, .int .i64 o.hor, .bool o.raise]] w (StepPost w g (stepF s o)) := by
  obtain ⟨A, c, A2, c2, hB, hl, ht⟩ := hs
  obtain ⟨l, t⟩ := s
  obtain ⟨dO, no, frm, ver, back, hor, raise⟩ := o
  simp only at hB hl ht hn h01 ⊢
  have HB := Lib.hid hB
  obtain ⟨k0, k1, kf⟩ := hB.two
  have hgl := hB.lt
  have HL := Lib.hid hl
  have HT := Lib.hid ht
  have h7 : bits .and .i64 dO 7 = 0 := h01
  clear hB hl ht h01
  go_enter Try.func8, Try.ntmps8
  go_wp2_with fail
  go_region_held3 (fun w' => w'.cell? ⟨g, 0, none⟩ = some (.slice A l.length c) ∧ w'.cell? ⟨w.heap.size, 2, none⟩ = some (.int .i64 frm) ∧ w'.cell? ⟨w.heap.size, 3, none⟩ = some (.int .i64 ver) ∧ w'.cell? ⟨w.heap.size, 4, none⟩ = some (.int .i64 back) ∧ w'.cell? ⟨w.heap.size, 5, none⟩ = some (.int .i64 hor) ∧ w'.cell? ⟨w.heap.size, 6, none⟩ = some (.bool raise)) (go_keep) ((go_at_call 9; refine (ask_any A l.length c l frm ver back hor raise _ ((HL.out.alloc _).drew) (by omega)).mono ?_; rintro e w1 ⟨v, rfl, hv, hb1⟩; have HS1 := Lib.hid (((HB.out.alloc _).drew).below hb1 (by simp; omega)); have HX1 := Lib.hid (((Blk.new w 35 #[.int .i64 dO, .int .i64 no, .int .i64 frm, .int .i64 ver, .int .i64 back, .int .i64 hor, .bool raise]).drew).below hb1 (by simp)); obtain ⟨m0, m1, m2, m3, m4, m5, m6, mf⟩ := HX1.out.seven; obtain ⟨n0, n1, nf⟩ := HS1.out.two; have HV := Lib.hid hv; have HB1 := Lib.hid hb1; clear hv hb1))
  have hg1 := HS1.out.lt
  generalize hr : askF l frm ver back hor raise = r at HV
  have HF : Hid (stepF ⟨l, t⟩ ⟨dO, no, frm, ver, back, hor, raise⟩ = (if r.2.2 = 0 then ⟨r.1, t⟩ else ⟨l, t⟩, r.2.1, r.2.2)) := by
    show _ = _
    unfold stepF
    rw [if_pos (.inl h7)]
    simp only [hr]
  clear hr
  by_cases he : r.2.2 = 0
  · have hb : (r.2.2 == 0) = true := by simp [he]
    have HE := Lib.hid he
    clear he
    obtain ⟨A', c', rfl, hlv⟩ := HV.out
    have HLV := Lib.hid hlv
    clear hlv
    go_wp2
    go_ret2
    unfold StepPost
    rw [HF.out, if_pos HE.out]
    refine ⟨rfl, ?_, ?_⟩
    · exact st_store ⟨_, _, _, _, _, _, rfl, rfl, HS1.out⟩ HV.out (SlV.mk' (((HT.out.alloc _).drew).below HB1.out) rfl)
    · exact only_setCell (only_setCell (only_below (only_drew (only_alloc (World.grownBy.refl w _) _)) HB1.out) (p := ⟨g, 0, none⟩) (.inl rfl) _) (p := ⟨g, 1, none⟩) (.inl rfl) _
  · have hb : (r.2.2 == 0) = false := by simpa using he
    have HE := Lib.hid he
    clear he
    go_wp2
    go_ret2
    unfold StepPost
    rw [HF.out, if_neg HE.out]
    refine ⟨rfl, ?_, ?_⟩
    · exact ⟨A, c, A2, c2, HS1.out, ((HL.out.alloc _).drew).below HB1.out, ((HT.out.alloc _).drew).below HB1.out⟩
    · exact only_below (only_drew (only_alloc (World.grownBy.refl w _) _)) HB1.out
end Go.Proofs.Ytpdmjahdnfhcoaa
