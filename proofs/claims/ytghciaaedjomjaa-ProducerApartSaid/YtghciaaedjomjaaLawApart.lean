/- ProducerApart: the walk. -/
import Derived.Test.YtghciaaedjomjaaFew
import Derived.Test.YtghciaaedjomjaaApartP
namespace Go.Proofs.Ytghciaaedjomjaa
open Go.RowKit

def PutPost (w : World) (s : List Prd) (id pos : Int) (e : Ending) (w' : World) : Prop :=
  ∃ (T : List Prd) (A : Option Addr) (c : Nat), e = .returned (.slice A T.length c) ∧ TabP (fun _ => True) w' A c T ∧ RightP T ∧ (T = s ∨ T = putP s id pos) ∧ Below w.heap.size w w'
theorem put_any (P : Nat → Prop) (A : Option Addr) (c : Nat) (s : List Prd) (kind id ep sq : Int) (src : ByteArray) (sch tm : Int) (ra : Option Addr) (rn rc : Nat) (pos : Int) (w : World) (hs : RightP s) (hr : TabP P w A c s) :
    Calls Try.prog 11 #[.slice A s.length c, .agg #[.int .i64 kind, .int .i64 id, .int .i64 ep, .int .i64 sq, .string src, .int .i64 sch, .int .i64 tm, .slice ra rn rc], .int .i64 pos] w (PutPost w s id pos) := by
  by_cases h : putOk s id ep sq pos
  · refine (put_yes P A c s kind id ep sq src sch tm ra rn rc pos w hs hr h).mono ?_
    rintro e w' ⟨A', c', rfl, ht, hb⟩
    exact ⟨_, A', c', rfl, ht.mono fun _ _ _ => trivial, put_right hs h, .inr rfl, hb⟩
  · refine (put_no P A c s kind id ep sq src sch tm ra rn rc pos w hs hr h).mono ?_
    rintro e w' ⟨A', c', rfl, ht, hb⟩
    exact ⟨_, A', c', rfl, ht.mono fun _ _ _ => trivial, hs, .inl rfl, hb⟩

set_option maxHeartbeats 16000000 in
set_option maxRecDepth 100000 in
theorem apart_any (A : Option Addr) (c : Nat) (s : List Prd) (ak aid aep asq : Int) (asrc : ByteArray) (asch atm : Int) (ara : Option Addr) (arn arc : Nat) (bk bid bep bsq : Int) (bsrc : ByteArray) (bsch btm : Int) (bra : Option Addr) (brn brc : Nat) (pos : Int) (w : World) (hr : TabP (fun _ => True) w A c s) :
    Calls Try.prog 4 #[.slice A s.length c, .agg #[.int .i64 ak, .int .i64 aid, .int .i64 aep, .int .i64 asq, .string asrc, .int .i64 asch, .int .i64 atm, .slice ara arn arc], .agg #[.int .i64 bk, .int .i64 bid, .int .i64 bep, .int .i64 bsq, .string bsrc, .int .i64 bsch, .int .i64 btm, .slice bra brn brc], .int .i64 pos] w fun e w' => e = .returned (.bool true) ∧ Below w.heap.size w w' := by
  have HR := Lib.hid hr
  clear hr
  go_enter Try.func4, Try.ntmps4
  go_wp2_with fail
  have HA0 : Hid (Blk ((w.alloc (.cells #[.int .i64 ak, .int .i64 aid, .int .i64 aep, .int .i64 asq, .string asrc, .int .i64 asch, .int .i64 atm, .slice ara arn arc] 36)).alloc (.cells #[.int .i64 bk, .int .i64 bid, .int .i64 bep, .int .i64 bsq, .string bsrc, .int .i64 bsch, .int .i64 btm, .slice bra brn brc] 36)) w.heap.size 36 #[.int .i64 ak, .int .i64 aid, .int .i64 aep, .int .i64 asq, .string asrc, .int .i64 asch, .int .i64 atm, .slice ara arn arc]) := Lib.hid ((Blk.new w _ _).alloc _)
  have HE0 : Hid (Blk ((w.alloc (.cells #[.int .i64 ak, .int .i64 aid, .int .i64 aep, .int .i64 asq, .string asrc, .int .i64 asch, .int .i64 atm, .slice ara arn arc] 36)).alloc (.cells #[.int .i64 bk, .int .i64 bid, .int .i64 bep, .int .i64 bsq, .string bsrc, .int .i64 bsch, .int .i64 btm, .slice bra brn brc] 36)) (w.heap.size + 1) 36 #[.int .i64 bk, .int .i64 bid, .int .i64 bep, .int .i64 bsq, .string bsrc, .int .i64 bsch, .int .i64 btm, .slice bra brn brc]) := Lib.hid (by simpa using Blk.new (w.alloc (.cells #[.int .i64 ak, .int .i64 aid, .int .i64 aep, .int .i64 asq, .string asrc, .int .i64 asch, .int .i64 atm, .slice ara arn arc] 36)) 36 #[.int .i64 bk, .int .i64 bid, .int .i64 bep, .int .i64 bsq, .string bsrc, .int .i64 bsch, .int .i64 btm, .slice bra brn brc])
  have HW0 : Hid (Below w.heap.size w ((w.alloc (.cells #[.int .i64 ak, .int .i64 aid, .int .i64 aep, .int .i64 asq, .string asrc, .int .i64 asch, .int .i64 atm, .slice ara arn arc] 36)).alloc (.cells #[.int .i64 bk, .int .i64 bid, .int .i64 bep, .int .i64 bsq, .string bsrc, .int .i64 bsch, .int .i64 btm, .slice bra brn brc] 36))) := Lib.hid (((Below.refl _ w).alloc (Nat.le_refl _) _).alloc (by simp) _)
  have HT0 := Lib.hid (HR.out.below HW0.out)
  refine (psmall_any _).mono ?_
  rintro e w1 ⟨rfl, hb1⟩
  have HA1 := Lib.hid (HA0.out.below hb1 HA0.out.lt)
  have HE1 := Lib.hid (HE0.out.below hb1 HE0.out.lt)
  have HW1 := Lib.hid (HW0.out.trans (hb1.mono HW0.out.size))
  have HT1 := Lib.hid (HT0.out.below hb1)
  obtain ⟨k0, k1, k2, k3, k4, k5, k6, k7⟩ := HA1.out.eight
  obtain ⟨m0, m1, m2, m3, m4, m5, m6, m7⟩ := HE1.out.eight
  clear hb1 HA0 HE0 HW0 HT0
  go_wp2_with fail
  refine (few_any _ A c s _ HT1.out).mono ?_
  rintro e w' ⟨B1, rfl, hB1, rfl⟩
  cases B1 with
  | false =>
    go_wp2_with fail
    go_ret
    exact ⟨rfl, HW1.out⟩
  | true =>
    have hs60 := hB1 rfl
    clear hB1
    go_wp2_with fail
    refine (rright_any _ A c s _ HT1.out).mono ?_
    rintro e w2 ⟨B2, rfl, hB2, hb2⟩
    have HA2 := Lib.hid (HA1.out.below hb2 HA1.out.lt)
    have HE2 := Lib.hid (HE1.out.below hb2 HE1.out.lt)
    have HW2 := Lib.hid (HW1.out.trans (hb2.mono HW1.out.size))
    have HT2 := Lib.hid (HT1.out.below hb2)
    clear k0 k1 k2 k3 k4 k5 k6 k7 m0 m1 m2 m3 m4 m5 m6 m7
    obtain ⟨k0, k1, k2, k3, k4, k5, k6, k7⟩ := HA2.out.eight
    obtain ⟨m0, m1, m2, m3, m4, m5, m6, m7⟩ := HE2.out.eight
    clear hb2 HA1 HE1 HW1 HT1
    cases B2 with
    | false =>
      go_wp2_with fail
      go_ret
      exact ⟨rfl, HW2.out⟩
    | true =>
      have HS := Lib.hid (hB2 rfl)
      clear hB2
      by_cases hab : aid = bid
      · have habb : (aid == bid) = true := by simp [hab]
        clear hab
        go_wp2_with fail
        go_ret
        exact ⟨rfl, HW2.out⟩
      · have habb : (aid == bid) = false := by simpa using hab
        have HAB := Lib.hid hab
        clear hab
        by_cases h49 : 49 ≤ s.length
        · have h49z : (49 : Int) ≤ (s.length : Int) := by omega
          have h49b : decide ((49 : Int) ≤ (s.length : Int)) = true := decide_eq_true h49z
          go_wp2_with fail
          go_ret
          exact ⟨rfl, HW2.out⟩
        · have h49z : ¬ (49 : Int) ≤ (s.length : Int) := by omega
          have h49b : decide ((49 : Int) ≤ (s.length : Int)) = false := decide_eq_false h49z
          go_wp2_with fail
          refine (look_any _ A c s ak aid aep asq _ _ _ _ _ _ _ HS.out HT2.out).mono ?_
          rintro e w3 ⟨rfl, hb3⟩
          have HA3 := Lib.hid (HA2.out.below hb3 HA2.out.lt)
          have HE3 := Lib.hid (HE2.out.below hb3 HE2.out.lt)
          have HW3 := Lib.hid (HW2.out.trans (hb3.mono HW2.out.size))
          have HT3 := Lib.hid (HT2.out.below hb3)
          clear k0 k1 k2 k3 k4 k5 k6 k7 m0 m1 m2 m3 m4 m5 m6 m7
          obtain ⟨k0, k1, k2, k3, k4, k5, k6, k7⟩ := HA3.out.eight
          obtain ⟨m0, m1, m2, m3, m4, m5, m6, m7⟩ := HE3.out.eight
          clear hb3 HA2 HE2 HW2 HT2
          obtain ⟨LN, LE, hlk⟩ : ∃ LN LE, lookF s aid aep asq = (LN, LE) := ⟨_, _, rfl⟩
          have HLK := Lib.hid hlk
          rw [hlk]
          clear hlk
          go_wp2_with fail
          refine (put_any _ A c s bk bid bep bsq _ _ _ _ _ _ pos _ HS.out HT3.out).mono ?_
          rintro e w4 ⟨T, AT, cT, rfl, htt, hTR, hTC, hb4⟩
          have HA4 := Lib.hid (HA3.out.below hb4 HA3.out.lt)
          have HE4 := Lib.hid (HE3.out.below hb4 HE3.out.lt)
          have HW4 := Lib.hid (HW3.out.trans (hb4.mono HW3.out.size))
          clear k0 k1 k2 k3 k4 k5 k6 k7 m0 m1 m2 m3 m4 m5 m6 m7
          obtain ⟨k0, k1, k2, k3, k4, k5, k6, k7⟩ := HA4.out.eight
          obtain ⟨m0, m1, m2, m3, m4, m5, m6, m7⟩ := HE4.out.eight
          have HU4 := Lib.hid htt
          have HTR := Lib.hid hTR
          have hTlen : T.length ≤ s.length + 1 := by rcases hTC with rfl | rfl; exact Nat.le_succ _; exact put_len.1
          have hTF : T.length < 49 ∨ (T.length < 50 ∧ findP T bid ≠ none) := by rcases hTC with rfl | rfl; exact .inl (by omega); exact .inr ⟨by omega, put_len.2⟩
          have HLT : Hid (lookF T aid aep asq = (LN, LE)) := Lib.hid (by rcases hTC with rfl | rfl; exact HLK.out; rw [apart_put HAB.out (by omega)]; exact HLK.out)
          have HTF := Lib.hid hTF
          clear htt hTR hTC hTF hb4 HA3 HE3 HW3 HT3
          go_wp2_with fail
          refine (look_any _ AT cT T ak aid aep asq _ _ _ _ _ _ _ HTR.out HU4.out).mono ?_
          rintro e w5 ⟨rfl, hb5⟩
          rw [HLT.out]
          have HA5 := Lib.hid (HA4.out.below hb5 HA4.out.lt)
          have HE5 := Lib.hid (HE4.out.below hb5 HE4.out.lt)
          have HW5 := Lib.hid (HW4.out.trans (hb5.mono HW4.out.size))
          have HU5 := Lib.hid (HU4.out.below hb5)
          clear k0 k1 k2 k3 k4 k5 k6 k7 m0 m1 m2 m3 m4 m5 m6 m7
          obtain ⟨k0, k1, k2, k3, k4, k5, k6, k7⟩ := HA5.out.eight
          obtain ⟨m0, m1, m2, m3, m4, m5, m6, m7⟩ := HE5.out.eight
          clear hb5 HA4 HE4 HW4 HU4
          have hnn : (LN != LN) = false := by simp
          have hee : (LE != LE) = false := by simp
          go_wp2_with fail
          refine (pright_yes _ AT cT T _ HTR.out HU5.out).mono ?_
          rintro e w6 ⟨rfl, hb6⟩
          have HA6 := Lib.hid (HA5.out.below hb6 HA5.out.lt)
          have HE6 := Lib.hid (HE5.out.below hb6 HE5.out.lt)
          have HW6 := Lib.hid (HW5.out.trans (hb6.mono HW5.out.size))
          have HU6 := Lib.hid (HU5.out.below hb6)
          clear k0 k1 k2 k3 k4 k5 k6 k7 m0 m1 m2 m3 m4 m5 m6 m7
          obtain ⟨k0, k1, k2, k3, k4, k5, k6, k7⟩ := HA6.out.eight
          obtain ⟨m0, m1, m2, m3, m4, m5, m6, m7⟩ := HE6.out.eight
          clear hb6 HA5 HE5 HW5 HU5
          go_wp2_with fail
          refine (fence_any _ AT cT T bid _ HTR.out HU6.out).mono ?_
          rintro e w7 ⟨AU, cU, rfl, htu, hb7⟩
          have HA7 := Lib.hid (HA6.out.below hb7 HA6.out.lt)
          have HE7 := Lib.hid (HE6.out.below hb7 HE6.out.lt)
          have HW7 := Lib.hid (HW6.out.trans (hb7.mono HW6.out.size))
          have HU7 := Lib.hid (HU6.out.below hb7)
          clear k0 k1 k2 k3 k4 k5 k6 k7 m0 m1 m2 m3 m4 m5 m6 m7
          obtain ⟨k0, k1, k2, k3, k4, k5, k6, k7⟩ := HA7.out.eight
          obtain ⟨m0, m1, m2, m3, m4, m5, m6, m7⟩ := HE7.out.eight
          have HV7 := Lib.hid (htu.mono (Q := fun _ => True) fun _ _ _ => trivial)
          clear htu hb7 HA6 HE6 HW6 HU6
          have hap := fun hok => apart_fence HTR.out (id := bid) hok HTF.out
          generalize fenceF T bid = FR at HV7 hap ⊢
          obtain ⟨U, E1, E2⟩ := FR
          simp only at HV7 hap
          by_cases hE : E2 = 0
          · subst hE
            obtain ⟨hUR, hUa, hUb⟩ := hap rfl
            have HUR := Lib.hid hUR
            have HLU : Hid (lookF U aid aep asq = (LN, LE)) := Lib.hid (by rw [hUa aid aep asq HAB.out]; exact HLT.out)
            have hwo := hUb bep bsq
            clear hap hUR hUa hUb
            go_wp2_with fail
            refine (look_any _ AU cU U ak aid aep asq _ _ _ _ _ _ _ HUR.out HV7.out).mono ?_
            rintro e w8 ⟨rfl, hb8⟩
            rw [HLU.out]
            have HA8 := Lib.hid (HA7.out.below hb8 HA7.out.lt)
            have HE8 := Lib.hid (HE7.out.below hb8 HE7.out.lt)
            have HW8 := Lib.hid (HW7.out.trans (hb8.mono HW7.out.size))
            have HU8 := Lib.hid (HU7.out.below hb8)
            have HV8 := Lib.hid (HV7.out.below hb8)
            clear k0 k1 k2 k3 k4 k5 k6 k7 m0 m1 m2 m3 m4 m5 m6 m7
            obtain ⟨k0, k1, k2, k3, k4, k5, k6, k7⟩ := HA8.out.eight
            obtain ⟨m0, m1, m2, m3, m4, m5, m6, m7⟩ := HE8.out.eight
            clear hb8 HA7 HE7 HW7 HU7 HV7
            go_wp2_with fail
            refine (look_any _ AT cT T bk bid bep bsq _ _ _ _ _ _ _ HTR.out HU8.out).mono ?_
            rintro e w9 ⟨rfl, hb9⟩
            have HA9 := Lib.hid (HA8.out.below hb9 HA8.out.lt)
            have HE9 := Lib.hid (HE8.out.below hb9 HE8.out.lt)
            have HW9 := Lib.hid (HW8.out.trans (hb9.mono HW8.out.size))
            have HV9 := Lib.hid (HV8.out.below hb9)
            clear k0 k1 k2 k3 k4 k5 k6 k7 m0 m1 m2 m3 m4 m5 m6 m7
            obtain ⟨k0, k1, k2, k3, k4, k5, k6, k7⟩ := HA9.out.eight
            obtain ⟨m0, m1, m2, m3, m4, m5, m6, m7⟩ := HE9.out.eight
            clear hb9 HA8 HE8 HW8 HV8
            generalize lookF T bid bep bsq = LW at hwo ⊢
            obtain ⟨WN, WE⟩ := LW
            go_wp2_with fail
            refine (look_any _ AU cU U bk bid bep bsq _ _ _ _ _ _ _ HUR.out HV9.out).mono ?_
            rintro e w10 ⟨rfl, hb10⟩
            have HW10 := Lib.hid (HW9.out.trans (hb10.mono HW9.out.size))
            have HV10 := Lib.hid (HV9.out.below hb10)
            clear k0 k1 k2 k3 k4 k5 k6 k7 m0 m1 m2 m3 m4 m5 m6 m7
            clear hb10 HA9 HE9 HW9 HV9
            generalize lookF U bid bep bsq = LO at hwo ⊢
            obtain ⟨ON, OE⟩ := LO
            simp only at hwo
            have hn2 : (LN == LN) = true := by simp
            have he2 : (LE == LE) = true := by simp
            have hfin : (WE == 25) = true ∨ ((WE == 25) = false ∧ (OE != 0) = true) := by
              by_cases h : WE = 25
              · exact .inl (by simp [h])
              · rcases hwo with q | q
                · exact absurd q h
                · exact .inr ⟨by simpa using h, by simpa using q⟩
            clear hwo
            rcases hfin with h1 | ⟨h1, h2⟩
            · go_wp2_with fail
              refine (pright_yes _ AU cU U _ HUR.out HV10.out).mono ?_
              rintro e w11 ⟨rfl, hb11⟩
              have HW11 := Lib.hid (HW10.out.trans (hb11.mono HW10.out.size))
              clear hb11
              go_wp2_with fail
              go_ret
              exact ⟨rfl, HW11.out⟩
            · go_wp2_with fail
              refine (pright_yes _ AU cU U _ HUR.out HV10.out).mono ?_
              rintro e w11 ⟨rfl, hb11⟩
              have HW11 := Lib.hid (HW10.out.trans (hb11.mono HW10.out.size))
              clear hb11
              go_wp2_with fail
              go_ret
              exact ⟨rfl, HW11.out⟩
          · have hEb : (E2 != 0) = true := by simpa using hE
            clear hap hE
            go_wp2_with fail
            go_ret
            exact ⟨rfl, HW7.out⟩
end Go.Proofs.Ytghciaaedjomjaa
