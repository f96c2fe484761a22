/- intake: Know. -/
import Derived.Test.YtghciaaedjomjaaItkG
namespace Go.Proofs.Ytghciaaedjomjaa
open Go.RowKit

theorem info_Col : (Try.prog.info? 72).map (fun i => (i.zero, i.size, i.bytes)) = some (some (.agg #[.string ⟨#[]⟩, .int .i64 0, .string ⟨#[]⟩]), 3, 40) := by kernel_rfl
theorem info_Known : (Try.prog.info? 75).map (fun i => (i.zero, i.size, i.bytes)) = some (some (.agg #[.string ⟨#[]⟩, .int .i64 0, .slice none 0 0]), 3, 48) := by kernel_rfl
/-- slices.Clone at columns: a row of the call's own. -/
def CloneCPost (w : World) (l : List CRaw) (e : Ending) (w' : World) : Prop := ∃ A c, e = .returned (.slice A l.length c) ∧ w'.ownsRow w.heap.size 72 3 (.slice A l.length c) l.length (l.flatMap encC) ∧ Below w.heap.size w w'
theorem cloneC_any (A : Option Addr) (n c : Nat) (l : List CRaw) (w : World) (hr : SlT 3 encC w A n c l) (hn : n ≤ 1000000) :
    Calls Try.prog 46 #[.slice A n c] w (CloneCPost w l) := by
  have hl := hr.1
  have q := fun (w : World) (a : Option Addr) (n c n' c' : Nat) => Lib.run_eql_slice_nil (P := Try.prog) w _ _ a n c n' c' Try.underlying73
  rcases A with _ | ad
  · have h0 : n = 0 := by
      rcases Nat.eq_zero_or_pos n with h | h
      · exact h
      · obtain ⟨_, _, h, _⟩ := hr.2.2 h
        cases h
    subst h0
    obtain rfl : l = [] := List.eq_nil_of_length_eq_zero hl
    clear hr hl
    go_enter Try.func46, Try.ntmps46
    go_wp2
    go_ret
    exact ⟨_, _, rfl, World.ownsRow_nil _ _ _ _, Below.refl _ _⟩
  · have HR := Lib.hid hr
    have HL := Lib.hid hl
    clear hr hl
    go_enter Try.func46, Try.ntmps46
    go_wp2_with (at_builtin; refine wpList_append_sl (k := 3) (enc := encC) _ rfl _ _ 73 rfl w.heap.size 72 _ 40 Try.underlying73 info_Col rfl (by decide) encC_len encC_one _ 0 [] rfl (World.ownsRow_made w #[] 0 (Nat.le_refl _) (Nat.zero_le _) rfl) (some ad) n c l rfl (HR.out.alloc _) (by unfold maxLen; omega) (by omega) (by simp) ?_)
    intro v' w1 hown hgrow hat
    go_wp2
    go_ret
    have hown2 : w1.ownsRow w.heap.size 72 3 v' l.length (l.flatMap encC) := by rw [HL.out]; simpa using hown
    obtain ⟨A', c', rfl⟩ := own_shape hown2
    exact ⟨A', c', rfl, hown2, ((Below.refl _ w).alloc (Nat.le_refl _) _).grown hgrow (by simp) (by intro k hk; simp [Value.ownBlock] at hk; omega)⟩

theorem step_append_run {P : Program} {ops : Array Oper} {o : Oper} {a : Act} {w : World} {K : Act → World → Prop} {Q : Exit → Act → World → Prop} {E : Prop} (hgd : o.guard = none) (s x : Operand) (t : TypeId)
    (ho : o.op = .call { callee := .builtin .append, args := #[s, x], argTypes := #[t, t] }) {v' : Value} {w' : World} (hrun : (Builtin.append_ #[t, t] o.type #[a.eval s, a.eval x]).run P w = .ok v' w') (h : K (a.put o.dst v') w') :
    if Region.wanted o (yielded ops a.tmps) = true then Oper.wp P o a w K Q else E := by
  have hw : Region.wanted o (yielded ops a.tmps) = true := by simp [Region.wanted, hgd]
  rw [if_pos hw]
  unfold Oper.wp execOp
  simp only [ho, resolve, invoke, builtin, Sem.run_bind, Sem.run_pure, Result.andThen_ok, List.map_toArray, List.map_cons, List.map_nil, hrun]
  exact h
theorem KOk.mono' {P Q : Nat → Prop} {w w' : World} {r : KRaw} {k : KnV} (h1 : KOk P w r k) (h2 : KOk P w' r k) (hpq : ∀ b, b < w.heap.size → P b → Q b) : KOk Q w' r k := by
  obtain ⟨e1, e2, cr, e3, s1⟩ := h1
  obtain ⟨f1, f2, cr', f3, s2⟩ := h2
  refine ⟨f1, f2, cr', f3, s2.1, fun hn b off e => ?_⟩
  obtain ⟨b', off', e', hb, _⟩ := s1.1.2.2 hn
  rw [e] at e'
  injection e' with e'
  injection e' with e1 e2
  exact hpq b (by omega) (s1.2 hn b off e)
def KnowPost (w : World) (p : Nat) (c : Cfg) (st : ISt) (mb : Nat) (pa : Option Addr) (pc : Nat) (ks : List KnV) (e : Ending) (w' : World) : Prop :=
  ∃ ka kc, e = .returned (.tuple #[]) ∧ Blk w' p 69 (itkCells c st mb ks.length ka kc pa pc) ∧ KnAt (fun b => w.heap.size ≤ b) w' ka kc ks ∧ w.grownBy w' (some p)
def KnowInv (w : World) (p : Nat) (c : Cfg) (st : ISt) (mb : Nat) (pa : Option Addr) (pc : Nat) (ks : List KnV) (kk : Nat) (wr : World) : Prop :=
  ∃ (a : Option Addr) (cap : Nat) (raw : List KRaw), Blk wr p 69 (itkCells c st mb kk a cap pa pc) ∧ wr.ownsRow w.heap.size 75 3 (.slice a kk cap) kk (raw.flatMap encN) ∧ raw.length = kk ∧
    (∀ (i : Nat) (r : KRaw) (k : KnV), raw[i]? = some r → ks[i]? = some k → KOk (fun b => w.heap.size ≤ b ∧ some b ≠ (Value.slice a kk cap).ownBlock) wr r k) ∧ w.grownBy wr (some p)
set_option maxHeartbeats 2000000 in
set_option maxRecDepth 100000 in
theorem know_any (P : Nat → Prop) (p : Nat) (c : Cfg) (st : ISt) (mb kn0 : Nat) (ka0 : Option Addr) (kc0 : Nat) (pa : Option Addr) (pc : Nat) (A : Option Addr) (cc : Nat) (ks : List KnV) (w : World)
    (hb : Blk w p 69 (itkCells c st mb kn0 ka0 kc0 pa pc)) (hk : KnAt P w A cc ks) (hP : ∀ b, P b → b ≠ p) (hn : ks.length ≤ 1000) (hcols : ∀ k ∈ ks, k.cols.length ≤ 1000) :
    Calls Try.prog 36 #[.pointer (some ⟨p, 0, none⟩), .slice A ks.length cc] w (KnowPost w p c st mb pa pc ks) := by
  obtain ⟨raw, hk1, hk2, hk3⟩ := hk
  have HK1 := Lib.hid hk1
  have HK2 := Lib.hid hk2
  have HK3 := Lib.hid hk3
  have HP := Lib.hid hP
  have HCOL := Lib.hid hcols
  have HB := Lib.hid hb
  have hfz := hb.frozen 6
  have hc6 := hb.cell 6
  simp only [itkCells] at hc6
  have hpw := hb.lt
  have HINV : Hid (KnowInv w p c st mb pa pc ks 0 (w.setCell ⟨p, 6, none⟩ (.slice none 0 0))) := Lib.hid ⟨none, 0, [], by
    have := hb.set_ 6 (.slice none 0 0)
    simpa [itkCells] using this, World.ownsRow_nil _ _ _ _, rfl, by intro i r k h; simp at h, only_setCell (World.grownBy.refl _ _) (.inl rfl) _⟩
  clear hk1 hk2 hk3 hP hcols hb
  go_enter Try.func36, Try.ntmps36
  go_wp2_with fail
  generalize (w.setCell ⟨p, 6, none⟩ (.slice none 0 0)) = w0 at HINV ⊢
  clear hfz hc6
  go_loopg [5, 11] ks.length (fun gg _ s11 wr => ∃ kk : Nat, kk ≤ ks.length ∧ ks.length - kk ≤ gg ∧ s11 = .int .i64 kk ∧ Hid (KnowInv w p c st mb pa pc ks kk wr))
  case atStart => exact ⟨0, Nat.zero_le _, by omega, rfl, HINV⟩
  case round =>
    obtain ⟨kk, hkk, hg, rfl, HI⟩ := hrel
    clear HINV
    revert HI
    revert wr
    intro wo HI
    by_cases hlt : kk < ks.length
    · have hltz : (kk : Int) < (ks.length : Int) := by omega
      obtain ⟨a, cap, rl, hbk, hown, hrl, hok, hgr⟩ := HI.out
      have HBK := Lib.hid hbk
      have HOWN := Lib.hid hown
      have HRL := Lib.hid hrl
      have HOK := Lib.hid hok
      have HGR := Lib.hid hgr
      clear hown hrl hok hgr HI
      obtain ⟨sb, so, rfl, hsb, hscells⟩ := HK1.out.1.2.2 (by omega)
      have hsbp : sb ≠ p := HP.out sb (HK1.out.2 (by omega) sb so rfl)
      obtain ⟨x, hx⟩ : ∃ x, raw[kk]? = some x := ⟨_, List.getElem?_eq_getElem (by have := HK2.out; omega)⟩
      obtain ⟨k, hkx⟩ : ∃ k, ks[kk]? = some k := ⟨_, List.getElem?_eq_getElem hlt⟩
      obtain ⟨hsrc, hsch, cr, hcr, hcs⟩ := HK3.out kk x k hx hkx
      have hcn : x.cn ≤ 1000 := by
        have h1 := HCOL.out k (List.mem_of_getElem? hkx)
        rw [← hcr, List.length_map] at h1
        rw [← hcs.1.1]
        exact h1
      have hkeep : ∀ b, b < w.heap.size → P b → wo.heap[b]? = w.heap[b]? := fun b hb hPb => HGR.out.block b hb (by intro e; injection e with e; exact HP.out b hPb e)
      have hscw : ∀ o, wo.cell? ⟨sb, o, none⟩ = w.cell? ⟨sb, o, none⟩ := fun o => World.cell?_of_block (a := ⟨sb, o, none⟩) (HGR.out.block sb hsb (by intro e; injection e with e; exact hsbp e))
      have s0 := (hscw _).trans (hscells kk x hx 0 _ rfl)
      have s1 := (hscw _).trans (hscells kk x hx 1 _ rfl)
      have s2 := (hscw _).trans (hscells kk x hx 2 _ rfl)
      rw [Nat.add_zero] at s0
      have HCS := Lib.hid (hcs.keep HGR.out.size hkeep)
      have HHD := Lib.hid (And.intro hsrc (And.intro hsch hcr))
      have hsbw : sb < wo.heap.size := Nat.lt_of_lt_of_le hsb HGR.out.size
      have HKX := Lib.hid hkx
      clear hscells hx hkx hsrc hsch hcr hcs hkeep hscw hbk
      go_wp2_with fail
      refine (cloneC_any x.ca x.cn x.cc cr _ (HCS.out.1.alloc _) (by omega)).mono ?_
      rintro e w2 ⟨ca, cc2, rfl, hown2, hb2⟩
      have HK2' := Lib.hid ((Blk.new wo 75 #[.string x.src, .int .i64 x.sch, .slice x.ca x.cn x.cc]).below hb2 (by simp))
      have HB2 : Hid (Below wo.heap.size wo w2) := Lib.hid (((Below.refl _ wo).alloc (Nat.le_refl _) _).trans (hb2.mono (by simp)))
      have HOC2 := Lib.hid (own_mono (base' := wo.heap.size + 1) hown2 (by simp))
      have hz2 : wo.heap.size < w2.heap.size := HK2'.out.lt
      obtain ⟨m0, m1, m2, mf⟩ := HK2'.out.three
      have mf2 := mf 2
      clear hown2 hb2 mf s0 s1 s2
      go_wp2_with fail
      have HK3' : Hid (Blk (w2.setCell ⟨wo.heap.size, 2, none⟩ (.slice ca cr.length cc2)) wo.heap.size 75 #[.string x.src, .int .i64 x.sch, .slice ca cr.length cc2]) := Lib.hid (by simpa using HK2'.out.set_ 2 (.slice ca cr.length cc2))
      have HB3 : Hid (Below wo.heap.size wo (w2.setCell ⟨wo.heap.size, 2, none⟩ (.slice ca cr.length cc2))) := Lib.hid (HB2.out.setCell (p := ⟨wo.heap.size, 2, none⟩) (Nat.le_refl _) _)
      have HOC3 : Hid ((w2.setCell ⟨wo.heap.size, 2, none⟩ (.slice ca cr.length cc2)).ownsRow (wo.heap.size + 1) 72 3 (.slice ca cr.length cc2) cr.length (cr.flatMap encC)) := Lib.hid (own_other_set HOC2.out HK2'.out (by decide) 2 _)
      have hz3 : wo.heap.size < (w2.setCell ⟨wo.heap.size, 2, none⟩ (.slice ca cr.length cc2)).heap.size := HK3'.out.lt
      clear HK2' HB2 HOC2 m0 m1 m2 mf2 hz2
      generalize (w2.setCell ⟨wo.heap.size, 2, none⟩ (.slice ca cr.length cc2)) = w3 at HK3' HB3 HOC3 hz3 ⊢
      obtain ⟨m0, m1, m2, mf⟩ := HK3'.out.three
      have HO4 : Hid ((w3.alloc (.cells #[.string x.src, .int .i64 x.sch, .slice ca cr.length cc2] 75)).drew.ownsRow w.heap.size 75 3 (.slice a kk cap) kk (rl.flatMap encN)) := Lib.hid (own_below (own_below HOWN.out HB3.out) ((Below.refl _ w3).alloc (Nat.le_refl _) _).drew)
      obtain ⟨v', w5, hrun, hown5, hgr5, hob5⟩ := run_append_sl (P := Try.prog) (w3.alloc (.cells #[.string x.src, .int .i64 x.sch, .slice ca cr.length cc2] 75)).drew w.heap.size 49 49 75 _ 48 Try.underlying49 info_Known rfl (by decide) encN_len encN_one (.slice a kk cap) kk rl HO4.out (some ⟨w3.heap.size, 0, none⟩) 1 1 [⟨x.src, x.sch, ca, cr.length, cc2⟩] (SlT.one encN_len w3 ⟨x.src, x.sch, ca, cr.length, cc2⟩ _ rfl _) (by unfold maxLen; omega) (by omega) (by simp; have := HGR.out.size; omega)
      have hab : ∀ b, (Value.slice a kk cap).ownBlock = some b → b < wo.heap.size := fun b e => (HOWN.out.lt b e).2
      have hbp : some p ≠ (Value.slice a kk cap).ownBlock := fun e => by have := (HOWN.out.lt p e.symm).1; omega
      have hbg : some wo.heap.size ≠ (Value.slice a kk cap).ownBlock := fun e => by have := hab _ e.symm; omega
      have hz4 : w3.heap.size < (w3.alloc (.cells #[.string x.src, .int .i64 x.sch, .slice ca cr.length cc2] 75)).drew.heap.size := by simp
      have HB4 : Hid (Below wo.heap.size wo (w3.alloc (.cells #[.string x.src, .int .i64 x.sch, .slice ca cr.length cc2] 75)).drew) := Lib.hid (HB3.out.alloc HB3.out.size _).drew
      have HK5 := Lib.hid (((HK3'.out.alloc (.cells #[.string x.src, .int .i64 x.sch, .slice ca cr.length cc2] 75)).drew).grown hgr5 hbg)
      have hbko := HBK.out.lt
      have HP5 := Lib.hid ((HBK.out.below HB4.out hbko).grown hgr5 hbp)
      obtain ⟨a', cap', rfl⟩ := own_shape hown5
      have HO5 := Lib.hid hown5
      have HG5 := Lib.hid hgr5
      have HOB5 := Lib.hid hob5
      obtain ⟨n0, n1, n2, nf⟩ := HK5.out.three
      have x6 : w3.cell? ⟨p, 6, none⟩ = some (.slice a kk cap) := (HB3.out.cell (p := ⟨p, 6, none⟩) hbko).trans (HBK.out.cell 6)
      have hp3 : p < w3.heap.size := Nat.lt_of_lt_of_le hbko HB3.out.size
      have hp3n : p ≠ w3.heap.size := by omega
      have hpg : p ≠ wo.heap.size := by omega
      have hpg2 : wo.heap.size ≠ p := by omega
      have x65 : w5.cell? ⟨p, 6, none⟩ = some (.slice a kk cap) := HP5.out.cell 6
      have f65 := HP5.out.frozen 6
      clear hown5 hgr5 hob5 hab hbp hbg nf mf
      have HN : Hid (KnowInv w p c st mb pa pc ks (kk + 1) (w5.setCell ⟨p, 6, none⟩ (.slice a' (kk + 1) cap'))) := Lib.hid (by
        refine ⟨a', cap', rl ++ [⟨x.src, x.sch, ca, cr.length, cc2⟩], ?_, own_other_set HO5.out HP5.out (by decide) 6 _, by rw [List.length_append, HRL.out]; rfl, ?_, ?_⟩
        · have := HP5.out.set_ 6 (.slice a' (kk + 1) cap')
          simpa [itkCells] using this
        · have hPp : ∀ b, w.heap.size ≤ b → (w5.setCell ⟨p, 6, none⟩ (.slice a' (kk + 1) cap')).heap[b]? = w5.heap[b]? := fun b hb => Below.heap_setCell w5 ⟨p, 6, none⟩ _ b (by show b ≠ p; omega)
          have h45 : ∀ b, b < wo.heap.size → some b ≠ (Value.slice a kk cap).ownBlock → w5.heap[b]? = wo.heap[b]? := fun b h1 h2 => (HG5.out.block b (Nat.lt_of_lt_of_le h1 HB4.out.size) h2).trans (HB4.out.block b h1)
          have hs5 : wo.heap.size ≤ w5.heap.size := Nat.le_trans HB4.out.size HG5.out.size
          have hnew : ∀ b, b < (w3.alloc (.cells #[.string x.src, .int .i64 x.sch, .slice ca cr.length cc2] 75)).drew.heap.size → some b ≠ (Value.slice a kk cap).ownBlock → some b ≠ (Value.slice a' (kk + 1) cap').ownBlock := fun b h1 h2 h3 => by
            rcases HOB5.out with h | h
            · exact h2 (h3.trans h)
            · rw [h] at h3; injection h3 with h3; omega
          intro i r k' hr hk'
          have hrl := HRL.out
          rcases Nat.lt_or_ge i rl.length with hi | hi
          · rw [List.getElem?_append_left hi] at hr
            have h1 := HOK.out i r k' hr hk'
            have h2 := h1.keep (w' := w5.setCell ⟨p, 6, none⟩ (.slice a' (kk + 1) cap')) (by simpa [World.setCell] using hs5) (fun b hb hP => (hPp b hP.1).trans (h45 b hb hP.2))
            exact KOk.mono' h1 h2 (fun b hb hP => ⟨hP.1, hnew b (Nat.lt_of_lt_of_le hb HB4.out.size) hP.2⟩)
          · rw [List.getElem?_append_right hi] at hr
            have hi0 : i - rl.length = 0 := by
              have := (List.getElem?_eq_some_iff.1 hr).1
              simp at this
              omega
            rw [hi0] at hr
            simp only [List.getElem?_cons_zero, Option.some.injEq] at hr
            subst hr
            obtain rfl : i = kk := by omega
            have hkk' : k = k' := Option.some.inj (HKX.out.symm.trans hk')
            subst hkk'
            refine ⟨HHD.out.1, HHD.out.2.1, cr, HHD.out.2.2, ?_⟩
            have h1 : SlP (fun b => wo.heap.size + 1 ≤ b ∧ b < w3.heap.size) 3 encC w3 ca cr.length cc2 cr := SlP.of_own encC_len HOC3.out rfl (fun b h1 h2 => ⟨h1, h2⟩)
            have h2 : SlP (fun b => wo.heap.size + 1 ≤ b ∧ b < w3.heap.size) 3 encC w5 ca cr.length cc2 cr := h1.keep (Nat.le_trans (Nat.le_of_lt hz4) HG5.out.size) (fun b hb hP => (HG5.out.block b (by omega) (fun e => by have := (HOWN.out.lt b e.symm).2; omega)).trans (by
              show (w3.alloc _).heap[b]? = _
              exact Below.heap_alloc w3 _ b hb))
            have h3 : SlP (fun b => wo.heap.size + 1 ≤ b ∧ b < w3.heap.size) 3 encC (w5.setCell ⟨p, 6, none⟩ (.slice a' (i + 1) cap')) ca cr.length cc2 cr := h2.keep (by simp [World.setCell]) (fun b hb hP => hPp b (by have := HGR.out.size; omega))
            exact h3.mono (fun b hb hP => ⟨by have := HGR.out.size; omega, hnew b (by omega) (fun e => by have := (HOWN.out.lt b e.symm).2; omega)⟩)
        · refine only_setCell ?_ (.inl rfl) _
          refine ⟨HG5.out.os.trans (HB4.out.os.trans HGR.out.os), HG5.out.tape.trans (HB4.out.tape.trans HGR.out.tape), HG5.out.output.trans (HB4.out.output.trans HGR.out.output), Nat.le_trans HGR.out.size (Nat.le_trans HB4.out.size HG5.out.size), fun b hb hne => ?_⟩
          exact (HG5.out.block b (Nat.lt_of_lt_of_le hb (Nat.le_trans HGR.out.size HB4.out.size)) (fun e => by have := (HOWN.out.lt b e.symm).1; omega)).trans ((HB4.out.block b (Nat.lt_of_lt_of_le hb HGR.out.size)).trans (HGR.out.block b hb hne)))
      refine wp_region_noPanic ?_
      refine wp_region_held_drew (S := fun w' => w'.cell? ⟨wo.heap.size, 0, none⟩ = some (.string x.src) ∧ w'.cell? ⟨wo.heap.size, 1, none⟩ = some (.int .i64 x.sch) ∧ w'.cell? ⟨wo.heap.size, 2, none⟩ = some (.slice ca cr.length cc2)) (by kernel_rfl) ?_ (fun hHeld => ?_)
      · first | exact ⟨by assumption, by assumption⟩ | go_keep
      refine take_yes (i := 0) (some 19) (v := ?va0) (by simp only [List.getElem?_toArray, List.getElem?_cons_zero]; exact rfl) rfl (by kernel_rfl) (by kernel_rfl) (by kernel_rfl) (fun _ _ _ h => h) (by rfl) ?hya0 (by assumption) ?resta0
      case hya0 => (intro w hSw; (try dsimp only at hSw); go_simp; try with_reducible rfl)
      try simp only [Act.put, List.setIfInBounds_toArray, List.set_cons_zero, List.set_cons_succ]
      refine take_yes (i := 1) (some 20) (v := ?va1) (by simp only [List.getElem?_toArray, List.getElem?_cons_succ, List.getElem?_cons_zero]; exact rfl) rfl (by kernel_rfl) (by kernel_rfl) (by kernel_rfl) (fun _ _ _ h => h) (by rfl) ?hya1 (by assumption) ?resta1
      case hya1 => (intro w hSw; (try dsimp only at hSw); go_simp; try with_reducible rfl)
      try simp only [Act.put, List.setIfInBounds_toArray, List.set_cons_zero, List.set_cons_succ]
      refine take_yes (i := 2) (some 21) (v := ?va2) (by simp only [List.getElem?_toArray, List.getElem?_cons_succ, List.getElem?_cons_zero]; exact rfl) rfl (by kernel_rfl) (by kernel_rfl) (by kernel_rfl) (fun _ _ _ h => h) (by rfl) ?hya2 (by assumption) ?resta2
      case hya2 => (intro w hSw; (try dsimp only at hSw); go_simp; try with_reducible rfl)
      try simp only [Act.put, List.setIfInBounds_toArray, List.set_cons_zero, List.set_cons_succ]
      refine take_yes (i := 3) (some 22) (v := ?va3) (by simp only [List.getElem?_toArray, List.getElem?_cons_succ, List.getElem?_cons_zero]; exact rfl) rfl (by kernel_rfl) (by kernel_rfl) (by kernel_rfl) (fun _ _ _ h => h) (by rfl) ?hya3 (by assumption) ?resta3
      case hya3 => (intro w hSw; (try dsimp only at hSw); go_simp; try with_reducible rfl)
      try simp only [Act.put, List.setIfInBounds_toArray, List.set_cons_zero, List.set_cons_succ]
      refine take_yes (i := 5) (some 24) (v := ?va5) (by simp only [List.getElem?_toArray, List.getElem?_cons_succ, List.getElem?_cons_zero]; exact rfl) rfl (by kernel_rfl) (by kernel_rfl) (by kernel_rfl) (fun _ _ _ h => h) (by rfl) ?hya5 (by assumption) ?resta5
      case hya5 => (intro w hSw; (try dsimp only at hSw); go_simp; try with_reducible rfl)
      try simp only [Act.put, List.setIfInBounds_toArray, List.set_cons_zero, List.set_cons_succ]
      refine wpAnyH_ready (rs := [4, 6]) (by kernel_rfl) (by simp) ?_
      refine AllReadyH.cons rfl (fun K hK => ?_) (AllReadyH.cons rfl (fun K hK => ?_) AllReadyH.nil)
      · skip
        try go_simp
        refine hK.out _ _ ?_ (fun hHeld => ?_)
        · go_keep
        clear hK K
        try simp only [Act.put, List.setIfInBounds_toArray, List.set_cons_zero, List.set_cons_succ]
        refine wpAnyH_ready (rs := [6]) (by kernel_rfl) (by simp) ?_
        refine AllReadyH.cons rfl (fun K hK => ?_) AllReadyH.nil
        try go_simp
        refine hK.out _ _ ?_ (fun hHeld => ?_)
        · go_keep
        clear hK K
        try simp only [Act.put, List.setIfInBounds_toArray, List.set_cons_zero, List.set_cons_succ]
        refine wpAnyH_ready (rs := [7]) (by kernel_rfl) (by simp) ?_
        refine AllReadyH.cons rfl (fun K hK => ?_) AllReadyH.nil
        refine step_append_run rfl _ _ _ (by rfl) (by exact hrun) ?_
        refine hK.out _ _ ?_ (fun hHeld => ?_)
        · first | go_keep | ((repeat' apply And.intro) <;> assumption)
        clear hK K
        try simp only [Act.put, List.setIfInBounds_toArray, List.set_cons_zero, List.set_cons_succ]
        refine take_yes (i := 8) (some 27) (v := ?vaa8) (by simp only [List.getElem?_toArray, List.getElem?_cons_succ, List.getElem?_cons_zero]; exact rfl) rfl (by kernel_rfl) (by kernel_rfl) (by kernel_rfl) (fun _ _ _ h => h) (by rfl) ?hyaa8 (by assumption) ?restaa8
        case hyaa8 => (intro w hSw; (try dsimp only at hSw); go_simp; try with_reducible rfl)
        try simp only [Act.put, List.setIfInBounds_toArray, List.set_cons_zero, List.set_cons_succ]
        refine take_yes (i := 9) (some 28) (v := ?vaa9) (by simp only [List.getElem?_toArray, List.getElem?_cons_succ, List.getElem?_cons_zero]; exact rfl) rfl (by kernel_rfl) (by kernel_rfl) (by kernel_rfl) (fun _ _ _ h => h) (by rfl) ?hyaa9 (by assumption) ?restaa9
        case hyaa9 => (intro w hSw; (try dsimp only at hSw); go_simp; try with_reducible rfl)
        try simp only [Act.put, List.setIfInBounds_toArray, List.set_cons_zero, List.set_cons_succ]
        refine wpAnyH_ready (rs := [10]) (by kernel_rfl) (by simp) ?_
        refine AllReadyH.cons rfl (fun K hK => ?_) AllReadyH.nil
        try go_simp
        refine hK.out _ _ ?_ (fun hHeld => ?_)
        · go_keep
        clear hK K
        try simp only [Act.put, List.setIfInBounds_toArray, List.set_cons_zero, List.set_cons_succ]
        refine wpAnyH_done (by kernel_rfl) ?_ _
        refine NoPanic.normal ?_
        clear hHeld n0 n1 n2 x6 x65 f65 hrun m0 m1 m2
        generalize (w5.setCell ⟨p, 6, none⟩ (.slice a' (kk + 1) cap')) = w6 at HN ⊢
        go_wp2
        go_roundg (ks.length - (kk + 1))
        case measure => omega
        case rel => exact ⟨kk + 1, by omega, by omega, by go_num, HN⟩
      · skip
        try go_simp
        refine hK.out _ _ ?_ (fun hHeld => ?_)
        · go_keep
        clear hK K
        try simp only [Act.put, List.setIfInBounds_toArray, List.set_cons_zero, List.set_cons_succ]
        refine wpAnyH_ready (rs := [4]) (by kernel_rfl) (by simp) ?_
        refine AllReadyH.cons rfl (fun K hK => ?_) AllReadyH.nil
        try go_simp
        refine hK.out _ _ ?_ (fun hHeld => ?_)
        · go_keep
        clear hK K
        try simp only [Act.put, List.setIfInBounds_toArray, List.set_cons_zero, List.set_cons_succ]
        refine wpAnyH_ready (rs := [7]) (by kernel_rfl) (by simp) ?_
        refine AllReadyH.cons rfl (fun K hK => ?_) AllReadyH.nil
        refine step_append_run rfl _ _ _ (by rfl) (by exact hrun) ?_
        refine hK.out _ _ ?_ (fun hHeld => ?_)
        · first | go_keep | ((repeat' apply And.intro) <;> assumption)
        clear hK K
        try simp only [Act.put, List.setIfInBounds_toArray, List.set_cons_zero, List.set_cons_succ]
        refine take_yes (i := 8) (some 27) (v := ?vab8) (by simp only [List.getElem?_toArray, List.getElem?_cons_succ, List.getElem?_cons_zero]; exact rfl) rfl (by kernel_rfl) (by kernel_rfl) (by kernel_rfl) (fun _ _ _ h => h) (by rfl) ?hyab8 (by assumption) ?restab8
        case hyab8 => (intro w hSw; (try dsimp only at hSw); go_simp; try with_reducible rfl)
        try simp only [Act.put, List.setIfInBounds_toArray, List.set_cons_zero, List.set_cons_succ]
        refine take_yes (i := 9) (some 28) (v := ?vab9) (by simp only [List.getElem?_toArray, List.getElem?_cons_succ, List.getElem?_cons_zero]; exact rfl) rfl (by kernel_rfl) (by kernel_rfl) (by kernel_rfl) (fun _ _ _ h => h) (by rfl) ?hyab9 (by assumption) ?restab9
        case hyab9 => (intro w hSw; (try dsimp only at hSw); go_simp; try with_reducible rfl)
        try simp only [Act.put, List.setIfInBounds_toArray, List.set_cons_zero, List.set_cons_succ]
        refine wpAnyH_ready (rs := [10]) (by kernel_rfl) (by simp) ?_
        refine AllReadyH.cons rfl (fun K hK => ?_) AllReadyH.nil
        try go_simp
        refine hK.out _ _ ?_ (fun hHeld => ?_)
        · go_keep
        clear hK K
        try simp only [Act.put, List.setIfInBounds_toArray, List.set_cons_zero, List.set_cons_succ]
        refine wpAnyH_done (by kernel_rfl) ?_ _
        refine NoPanic.normal ?_
        clear hHeld n0 n1 n2 x6 x65 f65 hrun m0 m1 m2
        generalize (w5.setCell ⟨p, 6, none⟩ (.slice a' (kk + 1) cap')) = w6 at HN ⊢
        go_wp2
        go_roundg (ks.length - (kk + 1))
        case measure => omega
        case rel => exact ⟨kk + 1, by omega, by omega, by go_num, HN⟩
    · have hltz : ¬ (kk : Int) < (ks.length : Int) := by omega
      obtain rfl : kk = ks.length := by omega
      obtain ⟨a, cap, rl, hbk, hown, hrl, hok, hgr⟩ := HI.out
      have HF : Hid (KnowPost w p c st mb pa pc ks (.returned (.tuple #[])) wo) := Lib.hid ⟨a, cap, rfl, hbk, ⟨rl, SlP.of_own encN_len hown hrl (fun b h1 h2 => h1), hrl, fun i r k h1 h2 => (hok i r k h1 h2).mono (fun b h1 h2 => h2.1)⟩, hgr⟩
      clear hbk hown hrl hok hgr HI
      go_wp2
      go_end0
      exact HF.out
end Go.Proofs.Ytghciaaedjomjaa
