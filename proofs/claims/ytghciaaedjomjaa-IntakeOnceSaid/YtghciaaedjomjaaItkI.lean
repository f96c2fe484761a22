/- intake: New; the law's known columns and records. -/
import Derived.Test.YtghciaaedjomjaaItkH
namespace Go.Proofs.Ytghciaaedjomjaa
open Go.RowKit

def known1 : List KnV := [⟨⟨#[115]⟩, 1, [0]⟩, ⟨⟨#[116]⟩, 2, [1, 2]⟩]
def KnownPost (w : World) (e : Ending) (w' : World) : Prop := ∃ A c, e = .returned (.slice A known1.length c) ∧ KnAt (fun b => w.heap.size ≤ b) w' A c known1 ∧ Below w.heap.size w w'
theorem slT_block {α : Type} {k : Nat} {enc : α → List Value} (hk : ∀ x, (enc x).length = k) {w : World} {g : Nat} {t : TypeId} {cs : Array Value} {l : List α} {n c : Nat} (hb : Blk w g t cs) (hcs : cs = (l.flatMap enc).toArray) (hl : l.length = n) (hc : n ≤ c) : SlT k enc w (some ⟨g, 0, none⟩) n c l := by
  subst hcs
  refine ⟨hl, hc, fun _ => ⟨g, 0, rfl, hb.lt, fun j x hj i v hv => ?_⟩⟩
  have hi : i < k := by rw [← hk x]; exact (List.getElem?_eq_some_iff.1 hv).1
  rw [Nat.zero_add, hb.cell, List.getElem?_toArray, flat_at hk l j i hi, hj]
  exact hv
theorem Blk.new' (w : World) (g : Nat) (t : TypeId) (cs : Array Value) (hg : g = w.heap.size) : Blk (w.alloc (.cells cs t)) g t cs := by subst hg; exact Blk.new w t cs
set_option maxRecDepth 100000 in
theorem known_any (w : World) : Calls Try.prog 17 #[] w (KnownPost w) := by
  go_enter Try.func17, Try.ntmps17
  go_wp2
  go_ret
  refine ⟨_, _, rfl, ?_, (((Below.refl _ w).alloc (Nat.le_refl _) _).alloc (by simp) _).alloc (by simp; omega) _⟩
  refine ⟨[⟨⟨#[115]⟩, 1, some ⟨w.heap.size, 0, none⟩, 1, 1⟩, ⟨⟨#[116]⟩, 2, some ⟨w.heap.size + 1, 0, none⟩, 2, 2⟩], ⟨slT_block encN_len (Blk.new' _ _ _ _ (by simp)) rfl rfl (Nat.le_refl _), fun _ b off e => by injection e with e; injection e with e _; omega⟩, rfl, ?_⟩
  intro i r k hr hk
  match i, hr, hk with
  | 0, hr, hk =>
    injection hr with hr; injection hk with hk; subst hr; subst hk
    exact ⟨rfl, rfl, [⟨⟨#[97]⟩, 0, ⟨#[]⟩⟩], rfl, slT_block encC_len (((Blk.new w 72 _).alloc _).alloc _) rfl rfl (Nat.le_refl _), fun _ b off e => by injection e with e; injection e with e _; omega⟩
  | 1, hr, hk =>
    injection hr with hr; injection hk with hk; subst hr; subst hk
    refine ⟨rfl, rfl, [⟨⟨#[97]⟩, 1, ⟨#[]⟩⟩, ⟨⟨#[98]⟩, 2, ⟨#[]⟩⟩], rfl, ?_, fun _ b off e => by injection e with e; injection e with e _; omega⟩
    exact slT_block encC_len ((Blk.new' (w.alloc (.cells #[.string ⟨#[97]⟩, .int .i64 0, .string ⟨#[]⟩] 72)) _ 72 #[.string ⟨#[97]⟩, .int .i64 1, .string ⟨#[]⟩, .string ⟨#[98]⟩, .int .i64 2, .string ⟨#[]⟩] (by simp)).alloc _) rfl rfl (Nat.le_refl _)
  | i + 2, hr, hk => simp at hr
theorem KnAt.alloc2 {P : Nat → Prop} {w : World} {A : Option Addr} {c : Nat} {ks : List KnV} (h : KnAt P w A c ks) (o : Obj) : KnAt P (w.alloc o) A c ks := h.below ((Below.refl _ w).alloc (Nat.le_refl _) o)
def NewPost (G : Nat → Prop) (w : World) (c : Cfg) (ks : List KnV) (e : Ending) (w' : World) : Prop :=
  (rightB c = false ∧ e = .returned (.pointer none) ∧ Below w.heap.size w w') ∨ (rightB c = true ∧ ∃ p mb, e = .returned (.pointer (some ⟨p, 0, none⟩)) ∧ IX G w' p mb c ks ist0 ∧ w.heap.size ≤ p ∧ w.heap.size ≤ mb ∧ Below w.heap.size w w')
set_option maxHeartbeats 1000000 in
set_option maxRecDepth 100000 in
theorem new_any {G : Nat → Prop} (P : Nat → Prop) (c : Cfg) (A : Option Addr) (cc : Nat) (ks : List KnV) (w : World) (hk : KnAt P w A cc ks) (hG : ∀ b, w.heap.size ≤ b → G b) (hn : ks.length ≤ 1000) (hcols : ∀ k ∈ ks, k.cols.length ≤ 1000) :
    Calls Try.prog 16 #[.agg #[.int .i64 c.parts, .int .i64 c.delay, .int .i64 c.late, .int .i64 c.ahead, .int .i64 c.rate, .int .i64 c.span], .slice A ks.length cc] w (NewPost G w c ks) := by
  have HK : Hid (KnAt (fun b => b < w.heap.size) w A cc ks) := Lib.hid (hk.mono (fun b h _ => h))
  have HC := Lib.hid hcols
  have hmm := @run_makeMap Try.prog
  have HB0 : Hid (Below w.heap.size w (w.alloc (.cells #[.int .i64 c.parts, .int .i64 c.delay, .int .i64 c.late, .int .i64 c.ahead, .int .i64 c.rate, .int .i64 c.span] 45))) := Lib.hid ((Below.refl _ w).alloc (Nat.le_refl _) _)
  have HE0 := Lib.hid (Blk.new w 45 #[.int .i64 c.parts, .int .i64 c.delay, .int .i64 c.late, .int .i64 c.ahead, .int .i64 c.rate, .int .i64 c.span])
  clear hk hcols
  go_enter Try.func16, Try.ntmps16
  go_wp2_with fail
  refine (rightI_any c _).mono ?_
  rintro e w1 ⟨rfl, hb1⟩
  have HB1 : Hid (Below w.heap.size w w1) := Lib.hid (HB0.out.trans (hb1.mono HB0.out.size))
  have HE1 := Lib.hid (HE0.out.below hb1 HE0.out.lt)
  clear hb1
  cases hR : rightB c with
  | false =>
    have HR := Lib.hid hR
    go_wp2
    go_ret
    exact .inl ⟨HR.out, rfl, HB1.out⟩
  | true =>
    have HR := Lib.hid hR
    have hz1 : w.heap.size < w1.heap.size := HE1.out.lt
    obtain ⟨z0, z1, z2, z3, z4, z5, zf⟩ := HE1.out.six
    clear hR
    go_wp2_with fail
    have HK1 := Lib.hid (((HK.out.below HB1.out).alloc2 (.map #[] 0)).alloc2 (.cells #[.int .i64 c.parts, .int .i64 c.delay, .int .i64 c.late, .int .i64 c.ahead, .int .i64 c.rate, .int .i64 c.span, .slice none 0 0, .int .i64 0, .int .i64 (-1), .int .i64 0, .int .i64 0, .slice none 0 0, .map (some w1.heap.size)] 69))
    have HBK : Hid (Blk ((w1.alloc (.map #[] 0)).alloc (.cells #[.int .i64 c.parts, .int .i64 c.delay, .int .i64 c.late, .int .i64 c.ahead, .int .i64 c.rate, .int .i64 c.span, .slice none 0 0, .int .i64 0, .int .i64 (-1), .int .i64 0, .int .i64 0, .slice none 0 0, .map (some w1.heap.size)] 69)) (w1.heap.size + 1) 69 (itkCells c ist0 w1.heap.size 0 none 0 none 0)) := Lib.hid (Blk.new' _ _ _ _ (by simp))
    have HMC := Lib.hid ((MapC.made w1).block (w' := (w1.alloc (.map #[] 0)).alloc (.cells #[.int .i64 c.parts, .int .i64 c.delay, .int .i64 c.late, .int .i64 c.ahead, .int .i64 c.rate, .int .i64 c.span, .slice none 0 0, .int .i64 0, .int .i64 (-1), .int .i64 0, .int .i64 0, .slice none 0 0, .map (some w1.heap.size)] 69)) (Below.heap_alloc _ _ _ (by simp)))
    have HB2 := Lib.hid ((HB1.out.alloc HB1.out.size (.map #[] 0)).alloc (by simp; omega) (.cells #[.int .i64 c.parts, .int .i64 c.delay, .int .i64 c.late, .int .i64 c.ahead, .int .i64 c.rate, .int .i64 c.span, .slice none 0 0, .int .i64 0, .int .i64 (-1), .int .i64 0, .int .i64 0, .slice none 0 0, .map (some w1.heap.size)] 69))
    have hs3 : ((w1.alloc (.map #[] 0)).alloc (.cells #[.int .i64 c.parts, .int .i64 c.delay, .int .i64 c.late, .int .i64 c.ahead, .int .i64 c.rate, .int .i64 c.span, .slice none 0 0, .int .i64 0, .int .i64 (-1), .int .i64 0, .int .i64 0, .slice none 0 0, .map (some w1.heap.size)] 69)).heap.size = w1.heap.size + 2 := by simp
    have HS3 := Lib.hid hs3
    clear hs3
    refine (know_any (fun b => b < w.heap.size) (w1.heap.size + 1) c ist0 w1.heap.size 0 none 0 none 0 A cc ks _ HBK.out HK1.out (fun b hb => by omega) hn HC.out).mono ?_
    rintro e w3 ⟨ka, kc, rfl, hbk, hkn, hg⟩
    have HX : Hid (IX G w3 (w1.heap.size + 1) w1.heap.size c ks ist0) := Lib.hid ⟨ka, kc, none, 0, hbk, hkn.mono (fun b _ hb => ⟨by have := HS3.out; omega, by have := HS3.out; omega, hG b (by have := HS3.out; omega)⟩), ⟨[], SlP.nil _ _, rfl, fun i r k h => by simp at h⟩, HMC.out.kept hg (by intro e; injection e with e; omega), by omega⟩
    have HB3 : Hid (Below w.heap.size w w3) := Lib.hid (HB2.out.grown hg HB2.out.size (by intro k hk; injection hk with hk; omega))
    clear hbk hkn hg
    go_wp2
    go_ret
    exact .inr ⟨HR.out, _, _, rfl, HX.out, by omega, by omega, HB3.out⟩
end Go.Proofs.Ytghciaaedjomjaa
