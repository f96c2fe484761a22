/- Ask, its way to the end. -/
import Derived.Test.YtpdmjahdnfhcoaaRepE
namespace Go.Proofs.Ytpdmjahdnfhcoaa
open Go.RowKit

theorem sup_len (f : Int) (l : List Rep) (k : Nat) : ((l.take k).map (superseded f) ++ l.drop k).length = l.length := by simp; omega
theorem sup_at (f : Int) (l : List Rep) (k : Nat) (x : Rep) (hx : l[k]? = some x) : ((l.take k).map (superseded f) ++ l.drop k)[k]? = some x := by
  have hk := (List.getElem?_eq_some_iff.1 hx).1
  rw [List.getElem?_append_right (by simp; omega)]
  simp only [List.length_map, List.length_take, List.getElem?_drop]
  rw [show k + (k - min k l.length) = k by omega]
  exact hx
theorem sup_step (f : Int) (l : List Rep) (k : Nat) (x : Rep) (hx : l[k]? = some x) : ((l.take k).map (superseded f) ++ l.drop k).set k (superseded f x) = (l.take (k + 1)).map (superseded f) ++ l.drop (k + 1) := by
  obtain ⟨hk, he⟩ := List.getElem?_eq_some_iff.1 hx
  have h1 : l.drop k = x :: l.drop (k + 1) := by rw [← he, ← List.drop_eq_getElem_cons hk]
  rw [h1, List.set_append_right _ _ (by simp; omega)]
  simp only [List.length_map, List.length_take]
  rw [show k - min k l.length = 0 by omega, List.set_cons_zero, List.take_add_one, hx]
  simp
theorem sup_same (f : Int) (l : List Rep) (k : Nat) (x : Rep) (hx : l[k]? = some x) (hs : superseded f x = x) : ((l.take k).map (superseded f) ++ l.drop k) = (l.take (k + 1)).map (superseded f) ++ l.drop (k + 1) := by
  rw [← sup_step f l k x hx, hs]
  apply List.ext_getElem?
  intro j
  by_cases e : j = k
  · subst e
    rw [List.getElem?_set_self (by have := (List.getElem?_eq_some_iff.1 hx).1; rw [sup_len]; exact this), sup_at f l j x hx]
  · rw [List.getElem?_set_ne (by omega)]
def Answer (w : World) (r : List Rep × Int × Int) (e : Ending) (w' : World) : Prop := ∃ v, e = .returned (.tuple #[v, .int .i64 r.2.1, .int .i64 r.2.2]) ∧ SlV 6 encR w' v r.1 ∧ Below w.heap.size w w'
theorem ans_eq {w : World} {v : Value} {l : List Rep} {a b c d d' : Int} (hd : d = d') (h : SlV 6 encR w v (l ++ [⟨a, b, c, d, 0, 0⟩])) : SlV 6 encR w v (l ++ [⟨a, b, c, d', 0, 0⟩]) := hd ▸ h
theorem slv_snoc6 {w : World} {base n : Nat} {ty : TypeId} {v : Value} {l : List Rep} {a b c d d' f g : Int} (hd : d = d') (h : w.ownsRow base ty 6 v n (l.flatMap encR ++ encR ⟨a, b, c, d, f, g⟩)) : SlV 6 encR w v (l ++ [⟨a, b, c, d', f, g⟩]) := by
  subst hd
  have h' : w.ownsRow base ty 6 v n ((l ++ [(⟨a, b, c, d, f, g⟩ : Rep)]).flatMap encR) := by simpa using h
  obtain rfl := own_len encR_len (by decide) h'
  exact SlV.of_own encR_len h'
def askEnd (l : List Rep) (f ver back : Int) : List Rep × Int × Int :=
  if 3 ≤ (openL (l.map (superseded f))).length then ([], 0, 6) else (l.map (superseded f) ++ [⟨l.length + 1, f, ver, max 0 (f - back), 0, 0⟩], f, 0)


set_option maxHeartbeats 4000000 in
set_option maxRecDepth 100000 in
theorem ask_raised (A : Option Addr) (n c : Nat) (l : List Rep) (frm ver back hor : Int) (raise : Bool) (w : World) (hr : SlT 6 encR w A n c l) (hn : n ≤ 100000)
    (h0 : withinB frm 0 1099511627776 = true) (h1 : withinB ver 1 50 = true) (h2 : withinB back 0 1099511627776 = true) (h3 : withinB hor 0 1099511627776 = true)
    (hb : ¬ ((firstR l).isSome = true ∧ ((firstR l).getD repZ).state = 2)) (hp : 0 < hor) (hlt : frm < hor + back) (hra : raise = true) (hle : hor + back ≤ 1099511627776) :
    Calls Try.prog 9 #[.slice A n c, .int .i64 frm, .int .i64 ver, .int .i64 back, .int .i64 hor, .bool raise] w (Answer w (askEnd l (hor + back) ver back)) := by
  subst hra
  obtain rfl := hr.1
  have H0 := Lib.hid h0
  have H1 := Lib.hid h1
  have H2 := Lib.hid h2
  have H3 := Lib.hid h3
  have HR := Lib.hid hr
  simp only [withinB, decide_eq_true_eq] at h0 h2 h3
  obtain ⟨g0, g1⟩ := h0
  obtain ⟨g2, g3⟩ := h2
  obtain ⟨g4, g5⟩ := h3
  clear h1 hr
  generalize hr : (firstR l).getD repZ = r at hb
  generalize hs : (firstR l).isSome = s at hb
  have HF := Lib.hid hr
  have HS := Lib.hid hs
  clear hr hs
  have hne : s = true → (r.state == 2) = false := by
    intro h
    simpa [h] using hb
  clear hb
  go_enter Try.func9, Try.ntmps9
  go_wp2_with (go_at_call 18; refine (within_any _ _ _ _).mono ?_; rintro e w' ⟨rfl, rfl⟩; simp only [show withinB frm 0 1099511627776 = true from H0.out, show withinB ver 1 50 = true from H1.out, show withinB back 0 1099511627776 = true from H2.out, show withinB hor 0 1099511627776 = true from H3.out])
  refine (first_any A l.length c l _ HR.out (by omega)).mono ?_
  rintro e w1 ⟨rfl, hb1⟩
  rw [HF.out, HS.out]
  simp only [aggR]
  have HB1 := Lib.hid hb1
  clear hb1
  rcases Bool.eq_false_or_eq_true s with rfl | rfl
  all_goals
    first | replace hne := hne rfl | clear hne
    go_wp2_with fail
    refine (cloneR_any A l.length c l _ ((HR.out.below HB1.out).alloc _) (by omega)).mono ?_
    rintro e w2 ⟨v, rfl, hown, hb2⟩
    have HB2 := Lib.hid ((HB1.out.alloc HB1.out.size _).trans (hb2.mono (by have := HB1.out.size; simp; omega)))
    have HO2 := Lib.hid (own_mono (base' := w.heap.size) hown (by have := HB1.out.size; simp; omega))
    clear hown hb2
    rcases HO2.out.2 with ⟨rfl, hz⟩ | ⟨b, cap, cur, rfl, _⟩
    · obtain rfl : l = [] := List.eq_nil_of_length_eq_zero hz
      go_wp2
      refine wp_loop_rounds 1 ?_
      rw [rounds_succ]
      go_wp2_with fail
      refine (Open_any none 0 0 [] _ (SlT.nil _ _) (by omega)).mono ?_
      rintro e w3 ⟨v3, rfl, hown3, hb3⟩
      obtain ⟨A3, c3, rfl⟩ := own_shape hown3
      have hl0 : (openL ([] : List Rep)).length = 0 := rfl
      rw [hl0]
      clear hown3
      go_wp2_with (at_builtin; refine wpList_append_sl (k := 6) (enc := encR) _ rfl _ _ 28 rfl w.heap.size 39 _ 48 Try.underlying28 info_Rep rfl (by decide) encR_len encR_one (.slice none 0 0) 0 [] rfl (World.ownsRow_nil _ _ _ _) _ 1 1 _ rfl (SlT.one6 _ _ _ _ _ _ _ _) (by unfold maxLen; omega) (by omega) (by have := HB2.out.size; have := hb3.size; simp; omega) ?_)
      intro v4 w4 hown4 hg4 _
      have HO4 := Lib.hid hown4
      have HG4 := Lib.hid hg4
      clear hown4 hg4
      go_wp2
      go_ret3
      unfold Answer
      refine ⟨v4, ?_, ?_, ?_⟩
      · simp [askEnd, openL]
      · have h := SlV.of_own (l := [] ++ [_]) encR_len HO4.out
        exact ans_eq (l := []) (by first | rfl | omega | (simp only [Int.max_def]; split <;> omega)) h
      · exact (((HB2.out.trans (hb3.mono HB2.out.size)).alloc (by have := HB2.out.size; have := hb3.size; omega) _)).grown HG4.out (by have := HB2.out.size; have := hb3.size; simp; omega) (by intro k hk; simp [Value.ownBlock] at hk)
    · go_wp2
      go_loopg [72] l.length (fun gg s72 wr => ∃ i : Nat, s72 = .int .i64 i ∧ i ≤ l.length ∧ l.length - i ≤ gg ∧ Hid (wr.ownsRow w.heap.size 39 6 (.slice (some ⟨b, 0, none⟩) l.length cap) l.length (((l.take i).map (superseded (hor + back)) ++ l.drop i).flatMap encR)) ∧ Hid (Below w.heap.size w wr))
      case atStart => exact ⟨0, rfl, by omega, by omega, Lib.hid (by simpa using HO2.out), HB2.out⟩
      case round =>
        obtain ⟨i, rfl, hi, hg, HW, HBr⟩ := hrel
        obtain ⟨hbw, hbl⟩ := own_block_lt HW.out
        by_cases hlt : i < l.length
        · have hltz : (i : Int) < (l.length : Int) := by omega
          obtain ⟨x, hx⟩ : ∃ x, l[i]? = some x := ⟨_, List.getElem?_eq_getElem hlt⟩
          have hx' := sup_at (hor + back) l i x hx
          obtain ⟨c0, c1, c2, c3, c4, c5⟩ := ownR_cells HW.out hx'
          have fz := (own_cell encR_len (by decide) HW.out (f := 4) (by decide) hx' rfl).2
          have HX := Lib.hid hx
          clear hx hx'
          cases ho : openB x.state with
          | false =>
            have HO := Lib.hid ho
            clear ho
            go_wp2_with (go_at_call 21; refine (open_any _ _ _ _ _ _ _).mono ?_; rintro e w3 ⟨rfl, hb3⟩; obtain ⟨hc3, hf3⟩ := bcell hb3; have HB3 := Lib.hid hb3; clear hb3; simp only [show openB x.state = false from HO.out])
            go_roundg (l.length - (i + 1))
            case measure => omega
            case rel => exact ⟨i + 1, by go_num, by omega, by omega, by rw [← sup_same _ l i x HX.out (by unfold superseded; rw [if_neg (by rw [HO.out]; simp)])]; exact own_below (HW.out.alloc _) HB3.out, (HBr.out.alloc HBr.out.size _).trans (HB3.out.mono (by have := HBr.out.size; simp; omega))⟩
          | true =>
            have HO := Lib.hid ho
            clear ho
            by_cases hge : hor + back ≤ x.frm
            · go_wp2_with (go_at_call 21; refine (open_any _ _ _ _ _ _ _).mono ?_; rintro e w3 ⟨rfl, hb3⟩; obtain ⟨hc3, hf3⟩ := bcell hb3; have HB3 := Lib.hid hb3; clear hb3; simp only [show openB x.state = true from HO.out])
              go_roundg (l.length - (i + 1))
              case measure => omega
              case rel =>
                have hsx : superseded (hor + back) x = { x with state := 5 } := by unfold superseded; rw [if_pos ⟨HO.out, hge⟩]
                have h5 := own_field (f := 4) (v := .int .i64 5) encR_len (own_below (HW.out.alloc _) HB3.out) (by decide) (sup_at (hor + back) l i x HX.out) (x' := superseded (hor + back) x) (by rw [hsx]; rfl)
                rw [sup_step (hor + back) l i x HX.out] at h5
                exact ⟨i + 1, by go_num, by omega, by omega, h5.1, ((HBr.out.alloc HBr.out.size _).trans (HB3.out.mono (by have := HBr.out.size; simp; omega))).setCell hbw _⟩
            · go_wp2_with (go_at_call 21; refine (open_any _ _ _ _ _ _ _).mono ?_; rintro e w3 ⟨rfl, hb3⟩; obtain ⟨hc3, hf3⟩ := bcell hb3; have HB3 := Lib.hid hb3; clear hb3; simp only [show openB x.state = true from HO.out])
              go_roundg (l.length - (i + 1))
              case measure => omega
              case rel => exact ⟨i + 1, by go_num, by omega, by omega, by rw [← sup_same _ l i x HX.out (by unfold superseded; rw [if_neg (by intro h; have := h.2; omega)])]; exact own_below (HW.out.alloc _) HB3.out, (HBr.out.alloc HBr.out.size _).trans (HB3.out.mono (by have := HBr.out.size; simp; omega))⟩
        · have hltz : ¬ (i : Int) < (l.length : Int) := by omega
          obtain rfl : i = l.length := by omega
          clear hltz hlt hg hi
          have HO5 : Hid (wr.ownsRow w.heap.size 39 6 (.slice (some ⟨b, 0, none⟩) l.length cap) l.length ((l.map (superseded (hor + back))).flatMap encR)) := Lib.hid (by simpa using HW.out)
          have HB5 := HBr
          clear HW HBr
          go_wp2_with fail
          refine (Open_any (some ⟨b, 0, none⟩) l.length cap (l.map (superseded (hor + back))) _ (SlT.of_own encR_len HO5.out (by simp)) (by omega)).mono ?_
          rintro e w6 ⟨v6, rfl, hown6, hb6⟩
          obtain ⟨A6, c6, rfl⟩ := own_shape hown6
          clear hown6
          generalize hk : (openL (l.map (superseded (hor + back)))).length = k6
          have HK := Lib.hid hk
          clear hk
          by_cases hfull : 3 ≤ k6
          · go_wp2
            go_ret3
            unfold Answer
            have e : askEnd l (hor + back) ver back = ([], 0, 6) := by unfold askEnd; rw [HK.out, if_pos hfull]
            rw [e]
            exact ⟨_, rfl, SlV.nil, HB5.out.trans (hb6.mono HB5.out.size)⟩
          · have hnb : l.length ≤ 100000 := hn
            go_wp2_with (at_builtin; refine wpList_append_sl (k := 6) (enc := encR) _ rfl _ _ 28 rfl w.heap.size 39 _ 48 Try.underlying28 info_Rep rfl (by decide) encR_len encR_one (.slice (some ⟨b, 0, none⟩) l.length cap) l.length (l.map (superseded (hor + back))) rfl ((own_below HO5.out hb6).alloc _) _ 1 1 _ rfl (SlT.one6 _ _ _ _ _ _ _ _) (by unfold maxLen; omega) (by omega) (by have := HB5.out.size; have := hb6.size; simp; omega) ?_)
            intro v4 w4 hown4 hg4 _
            have HO4 := Lib.hid hown4
            have HG4 := Lib.hid hg4
            clear hown4 hg4
            go_wp2
            go_ret3
            unfold Answer
            have e : askEnd l (hor + back) ver back = (l.map (superseded (hor + back)) ++ [⟨l.length + 1, hor + back, ver, max 0 (hor + back - back), 0, 0⟩], hor + back, 0) := by unfold askEnd; rw [HK.out, if_neg hfull]
            rw [e]
            refine ⟨v4, rfl, ?_, ?_⟩
            · exact slv_snoc6 (by first | rfl | omega | (simp only [Int.max_def]; split <;> omega)) HO4.out
            · exact (((HB5.out.trans (hb6.mono HB5.out.size)).alloc (by have := HB5.out.size; have := hb6.size; omega) _)).grown HG4.out (by have := HB5.out.size; have := hb6.size; simp; omega) (by intro k hk; simp [Value.ownBlock] at hk; omega)

set_option maxHeartbeats 4000000 in
set_option maxRecDepth 100000 in
theorem ask_plain0a (A : Option Addr) (n c : Nat) (l : List Rep) (frm ver back hor : Int) (raise : Bool) (w : World) (hr : SlT 6 encR w A n c l) (hn : n ≤ 100000)
    (h0 : withinB frm 0 1099511627776 = true) (h1 : withinB ver 1 50 = true) (h2 : withinB back 0 1099511627776 = true) (h3 : withinB hor 0 1099511627776 = true)
    (hb : ¬ ((firstR l).isSome = true ∧ ((firstR l).getD repZ).state = 2)) (hp : hor ≤ 0) (hfb : frm ≤ back) :
    Calls Try.prog 9 #[.slice A n c, .int .i64 frm, .int .i64 ver, .int .i64 back, .int .i64 hor, .bool raise] w (Answer w (askEnd l (frm) ver back)) := by
  obtain rfl := hr.1
  have H0 := Lib.hid h0
  have H1 := Lib.hid h1
  have H2 := Lib.hid h2
  have H3 := Lib.hid h3
  have HR := Lib.hid hr
  simp only [withinB, decide_eq_true_eq] at h0 h2 h3
  obtain ⟨g0, g1⟩ := h0
  obtain ⟨g2, g3⟩ := h2
  obtain ⟨g4, g5⟩ := h3
  clear h1 hr
  generalize hr : (firstR l).getD repZ = r at hb
  generalize hs : (firstR l).isSome = s at hb
  have HF := Lib.hid hr
  have HS := Lib.hid hs
  clear hr hs
  have hne : s = true → (r.state == 2) = false := by
    intro h
    simpa [h] using hb
  clear hb
  go_enter Try.func9, Try.ntmps9
  go_wp2_with (go_at_call 18; refine (within_any _ _ _ _).mono ?_; rintro e w' ⟨rfl, rfl⟩; simp only [show withinB frm 0 1099511627776 = true from H0.out, show withinB ver 1 50 = true from H1.out, show withinB back 0 1099511627776 = true from H2.out, show withinB hor 0 1099511627776 = true from H3.out])
  refine (first_any A l.length c l _ HR.out (by omega)).mono ?_
  rintro e w1 ⟨rfl, hb1⟩
  rw [HF.out, HS.out]
  simp only [aggR]
  have HB1 := Lib.hid hb1
  clear hb1
  rcases Bool.eq_false_or_eq_true s with rfl | rfl
  all_goals
    first | replace hne := hne rfl | clear hne
    go_wp2_with fail
    refine (cloneR_any A l.length c l _ ((HR.out.below HB1.out).alloc _) (by omega)).mono ?_
    rintro e w2 ⟨v, rfl, hown, hb2⟩
    have HB2 := Lib.hid ((HB1.out.alloc HB1.out.size _).trans (hb2.mono (by have := HB1.out.size; simp; omega)))
    have HO2 := Lib.hid (own_mono (base' := w.heap.size) hown (by have := HB1.out.size; simp; omega))
    clear hown hb2
    rcases HO2.out.2 with ⟨rfl, hz⟩ | ⟨b, cap, cur, rfl, _⟩
    · obtain rfl : l = [] := List.eq_nil_of_length_eq_zero hz
      go_wp2
      refine wp_loop_rounds 1 ?_
      rw [rounds_succ]
      go_wp2_with fail
      refine (Open_any none 0 0 [] _ (SlT.nil _ _) (by omega)).mono ?_
      rintro e w3 ⟨v3, rfl, hown3, hb3⟩
      obtain ⟨A3, c3, rfl⟩ := own_shape hown3
      have hl0 : (openL ([] : List Rep)).length = 0 := rfl
      rw [hl0]
      clear hown3
      go_wp2_with (at_builtin; refine wpList_append_sl (k := 6) (enc := encR) _ rfl _ _ 28 rfl w.heap.size 39 _ 48 Try.underlying28 info_Rep rfl (by decide) encR_len encR_one (.slice none 0 0) 0 [] rfl (World.ownsRow_nil _ _ _ _) _ 1 1 _ rfl (SlT.one6 _ _ _ _ _ _ _ _) (by unfold maxLen; omega) (by omega) (by have := HB2.out.size; have := hb3.size; simp; omega) ?_)
      intro v4 w4 hown4 hg4 _
      have HO4 := Lib.hid hown4
      have HG4 := Lib.hid hg4
      clear hown4 hg4
      go_wp2
      go_ret3
      unfold Answer
      refine ⟨v4, ?_, ?_, ?_⟩
      · simp [askEnd, openL]
      · have h := SlV.of_own (l := [] ++ [_]) encR_len HO4.out
        exact ans_eq (l := []) (by first | rfl | omega | (simp only [Int.max_def]; split <;> omega)) h
      · exact (((HB2.out.trans (hb3.mono HB2.out.size)).alloc (by have := HB2.out.size; have := hb3.size; omega) _)).grown HG4.out (by have := HB2.out.size; have := hb3.size; simp; omega) (by intro k hk; simp [Value.ownBlock] at hk)
    · go_wp2
      go_loopg [72] l.length (fun gg s72 wr => ∃ i : Nat, s72 = .int .i64 i ∧ i ≤ l.length ∧ l.length - i ≤ gg ∧ Hid (wr.ownsRow w.heap.size 39 6 (.slice (some ⟨b, 0, none⟩) l.length cap) l.length (((l.take i).map (superseded (frm)) ++ l.drop i).flatMap encR)) ∧ Hid (Below w.heap.size w wr))
      case atStart => exact ⟨0, rfl, by omega, by omega, Lib.hid (by simpa using HO2.out), HB2.out⟩
      case round =>
        obtain ⟨i, rfl, hi, hg, HW, HBr⟩ := hrel
        obtain ⟨hbw, hbl⟩ := own_block_lt HW.out
        by_cases hlt : i < l.length
        · have hltz : (i : Int) < (l.length : Int) := by omega
          obtain ⟨x, hx⟩ : ∃ x, l[i]? = some x := ⟨_, List.getElem?_eq_getElem hlt⟩
          have hx' := sup_at (frm) l i x hx
          obtain ⟨c0, c1, c2, c3, c4, c5⟩ := ownR_cells HW.out hx'
          have fz := (own_cell encR_len (by decide) HW.out (f := 4) (by decide) hx' rfl).2
          have HX := Lib.hid hx
          clear hx hx'
          cases ho : openB x.state with
          | false =>
            have HO := Lib.hid ho
            clear ho
            go_wp2_with (go_at_call 21; refine (open_any _ _ _ _ _ _ _).mono ?_; rintro e w3 ⟨rfl, hb3⟩; obtain ⟨hc3, hf3⟩ := bcell hb3; have HB3 := Lib.hid hb3; clear hb3; simp only [show openB x.state = false from HO.out])
            go_roundg (l.length - (i + 1))
            case measure => omega
            case rel => exact ⟨i + 1, by go_num, by omega, by omega, by rw [← sup_same _ l i x HX.out (by unfold superseded; rw [if_neg (by rw [HO.out]; simp)])]; exact own_below (HW.out.alloc _) HB3.out, (HBr.out.alloc HBr.out.size _).trans (HB3.out.mono (by have := HBr.out.size; simp; omega))⟩
          | true =>
            have HO := Lib.hid ho
            clear ho
            by_cases hge : frm ≤ x.frm
            · go_wp2_with (go_at_call 21; refine (open_any _ _ _ _ _ _ _).mono ?_; rintro e w3 ⟨rfl, hb3⟩; obtain ⟨hc3, hf3⟩ := bcell hb3; have HB3 := Lib.hid hb3; clear hb3; simp only [show openB x.state = true from HO.out])
              go_roundg (l.length - (i + 1))
              case measure => omega
              case rel =>
                have hsx : superseded (frm) x = { x with state := 5 } := by unfold superseded; rw [if_pos ⟨HO.out, hge⟩]
                have h5 := own_field (f := 4) (v := .int .i64 5) encR_len (own_below (HW.out.alloc _) HB3.out) (by decide) (sup_at (frm) l i x HX.out) (x' := superseded (frm) x) (by rw [hsx]; rfl)
                rw [sup_step (frm) l i x HX.out] at h5
                exact ⟨i + 1, by go_num, by omega, by omega, h5.1, ((HBr.out.alloc HBr.out.size _).trans (HB3.out.mono (by have := HBr.out.size; simp; omega))).setCell hbw _⟩
            · go_wp2_with (go_at_call 21; refine (open_any _ _ _ _ _ _ _).mono ?_; rintro e w3 ⟨rfl, hb3⟩; obtain ⟨hc3, hf3⟩ := bcell hb3; have HB3 := Lib.hid hb3; clear hb3; simp only [show openB x.state = true from HO.out])
              go_roundg (l.length - (i + 1))
              case measure => omega
              case rel => exact ⟨i + 1, by go_num, by omega, by omega, by rw [← sup_same _ l i x HX.out (by unfold superseded; rw [if_neg (by intro h; have := h.2; omega)])]; exact own_below (HW.out.alloc _) HB3.out, (HBr.out.alloc HBr.out.size _).trans (HB3.out.mono (by have := HBr.out.size; simp; omega))⟩
        · have hltz : ¬ (i : Int) < (l.length : Int) := by omega
          obtain rfl : i = l.length := by omega
          clear hltz hlt hg hi
          have HO5 : Hid (wr.ownsRow w.heap.size 39 6 (.slice (some ⟨b, 0, none⟩) l.length cap) l.length ((l.map (superseded (frm))).flatMap encR)) := Lib.hid (by simpa using HW.out)
          have HB5 := HBr
          clear HW HBr
          go_wp2_with fail
          refine (Open_any (some ⟨b, 0, none⟩) l.length cap (l.map (superseded (frm))) _ (SlT.of_own encR_len HO5.out (by simp)) (by omega)).mono ?_
          rintro e w6 ⟨v6, rfl, hown6, hb6⟩
          obtain ⟨A6, c6, rfl⟩ := own_shape hown6
          clear hown6
          generalize hk : (openL (l.map (superseded (frm)))).length = k6
          have HK := Lib.hid hk
          clear hk
          by_cases hfull : 3 ≤ k6
          · go_wp2
            go_ret3
            unfold Answer
            have e : askEnd l (frm) ver back = ([], 0, 6) := by unfold askEnd; rw [HK.out, if_pos hfull]
            rw [e]
            exact ⟨_, rfl, SlV.nil, HB5.out.trans (hb6.mono HB5.out.size)⟩
          · have hnb : l.length ≤ 100000 := hn
            go_wp2_with (at_builtin; refine wpList_append_sl (k := 6) (enc := encR) _ rfl _ _ 28 rfl w.heap.size 39 _ 48 Try.underlying28 info_Rep rfl (by decide) encR_len encR_one (.slice (some ⟨b, 0, none⟩) l.length cap) l.length (l.map (superseded (frm))) rfl ((own_below HO5.out hb6).alloc _) _ 1 1 _ rfl (SlT.one6 _ _ _ _ _ _ _ _) (by unfold maxLen; omega) (by omega) (by have := HB5.out.size; have := hb6.size; simp; omega) ?_)
            intro v4 w4 hown4 hg4 _
            have HO4 := Lib.hid hown4
            have HG4 := Lib.hid hg4
            clear hown4 hg4
            go_wp2
            go_ret3
            unfold Answer
            have e : askEnd l (frm) ver back = (l.map (superseded (frm)) ++ [⟨l.length + 1, frm, ver, max 0 (frm - back), 0, 0⟩], frm, 0) := by unfold askEnd; rw [HK.out, if_neg hfull]
            rw [e]
            refine ⟨v4, rfl, ?_, ?_⟩
            · exact slv_snoc6 (by first | rfl | omega | (simp only [Int.max_def]; split <;> omega)) HO4.out
            · exact (((HB5.out.trans (hb6.mono HB5.out.size)).alloc (by have := HB5.out.size; have := hb6.size; omega) _)).grown HG4.out (by have := HB5.out.size; have := hb6.size; simp; omega) (by intro k hk; simp [Value.ownBlock] at hk; omega)

set_option maxHeartbeats 4000000 in
set_option maxRecDepth 100000 in
theorem ask_plain0b (A : Option Addr) (n c : Nat) (l : List Rep) (frm ver back hor : Int) (raise : Bool) (w : World) (hr : SlT 6 encR w A n c l) (hn : n ≤ 100000)
    (h0 : withinB frm 0 1099511627776 = true) (h1 : withinB ver 1 50 = true) (h2 : withinB back 0 1099511627776 = true) (h3 : withinB hor 0 1099511627776 = true)
    (hb : ¬ ((firstR l).isSome = true ∧ ((firstR l).getD repZ).state = 2)) (hp : hor ≤ 0) (hfb : back < frm) :
    Calls Try.prog 9 #[.slice A n c, .int .i64 frm, .int .i64 ver, .int .i64 back, .int .i64 hor, .bool raise] w (Answer w (askEnd l (frm) ver back)) := by
  obtain rfl := hr.1
  have H0 := Lib.hid h0
  have H1 := Lib.hid h1
  have H2 := Lib.hid h2
  have H3 := Lib.hid h3
  have HR := Lib.hid hr
  simp only [withinB, decide_eq_true_eq] at h0 h2 h3
  obtain ⟨g0, g1⟩ := h0
  obtain ⟨g2, g3⟩ := h2
  obtain ⟨g4, g5⟩ := h3
  clear h1 hr
  generalize hr : (firstR l).getD repZ = r at hb
  generalize hs : (firstR l).isSome = s at hb
  have HF := Lib.hid hr
  have HS := Lib.hid hs
  clear hr hs
  have hne : s = true → (r.state == 2) = false := by
    intro h
    simpa [h] using hb
  clear hb
  go_enter Try.func9, Try.ntmps9
  go_wp2_with (go_at_call 18; refine (within_any _ _ _ _).mono ?_; rintro e w' ⟨rfl, rfl⟩; simp only [show withinB frm 0 1099511627776 = true from H0.out, show withinB ver 1 50 = true from H1.out, show withinB back 0 1099511627776 = true from H2.out, show withinB hor 0 1099511627776 = true from H3.out])
  refine (first_any A l.length c l _ HR.out (by omega)).mono ?_
  rintro e w1 ⟨rfl, hb1⟩
  rw [HF.out, HS.out]
  simp only [aggR]
  have HB1 := Lib.hid hb1
  clear hb1
  rcases Bool.eq_false_or_eq_true s with rfl | rfl
  all_goals
    first | replace hne := hne rfl | clear hne
    go_wp2_with fail
    refine (cloneR_any A l.length c l _ ((HR.out.below HB1.out).alloc _) (by omega)).mono ?_
    rintro e w2 ⟨v, rfl, hown, hb2⟩
    have HB2 := Lib.hid ((HB1.out.alloc HB1.out.size _).trans (hb2.mono (by have := HB1.out.size; simp; omega)))
    have HO2 := Lib.hid (own_mono (base' := w.heap.size) hown (by have := HB1.out.size; simp; omega))
    clear hown hb2
    rcases HO2.out.2 with ⟨rfl, hz⟩ | ⟨b, cap, cur, rfl, _⟩
    · obtain rfl : l = [] := List.eq_nil_of_length_eq_zero hz
      go_wp2
      refine wp_loop_rounds 1 ?_
      rw [rounds_succ]
      go_wp2_with fail
      refine (Open_any none 0 0 [] _ (SlT.nil _ _) (by omega)).mono ?_
      rintro e w3 ⟨v3, rfl, hown3, hb3⟩
      obtain ⟨A3, c3, rfl⟩ := own_shape hown3
      have hl0 : (openL ([] : List Rep)).length = 0 := rfl
      rw [hl0]
      clear hown3
      go_wp2_with (at_builtin; refine wpList_append_sl (k := 6) (enc := encR) _ rfl _ _ 28 rfl w.heap.size 39 _ 48 Try.underlying28 info_Rep rfl (by decide) encR_len encR_one (.slice none 0 0) 0 [] rfl (World.ownsRow_nil _ _ _ _) _ 1 1 _ rfl (SlT.one6 _ _ _ _ _ _ _ _) (by unfold maxLen; omega) (by omega) (by have := HB2.out.size; have := hb3.size; simp; omega) ?_)
      intro v4 w4 hown4 hg4 _
      have HO4 := Lib.hid hown4
      have HG4 := Lib.hid hg4
      clear hown4 hg4
      go_wp2
      go_ret3
      unfold Answer
      refine ⟨v4, ?_, ?_, ?_⟩
      · simp [askEnd, openL]
      · have h := SlV.of_own (l := [] ++ [_]) encR_len HO4.out
        exact ans_eq (l := []) (by first | rfl | omega | (simp only [Int.max_def]; split <;> omega)) h
      · exact (((HB2.out.trans (hb3.mono HB2.out.size)).alloc (by have := HB2.out.size; have := hb3.size; omega) _)).grown HG4.out (by have := HB2.out.size; have := hb3.size; simp; omega) (by intro k hk; simp [Value.ownBlock] at hk)
    · go_wp2
      go_loopg [72] l.length (fun gg s72 wr => ∃ i : Nat, s72 = .int .i64 i ∧ i ≤ l.length ∧ l.length - i ≤ gg ∧ Hid (wr.ownsRow w.heap.size 39 6 (.slice (some ⟨b, 0, none⟩) l.length cap) l.length (((l.take i).map (superseded (frm)) ++ l.drop i).flatMap encR)) ∧ Hid (Below w.heap.size w wr))
      case atStart => exact ⟨0, rfl, by omega, by omega, Lib.hid (by simpa using HO2.out), HB2.out⟩
      case round =>
        obtain ⟨i, rfl, hi, hg, HW, HBr⟩ := hrel
        obtain ⟨hbw, hbl⟩ := own_block_lt HW.out
        by_cases hlt : i < l.length
        · have hltz : (i : Int) < (l.length : Int) := by omega
          obtain ⟨x, hx⟩ : ∃ x, l[i]? = some x := ⟨_, List.getElem?_eq_getElem hlt⟩
          have hx' := sup_at (frm) l i x hx
          obtain ⟨c0, c1, c2, c3, c4, c5⟩ := ownR_cells HW.out hx'
          have fz := (own_cell encR_len (by decide) HW.out (f := 4) (by decide) hx' rfl).2
          have HX := Lib.hid hx
          clear hx hx'
          cases ho : openB x.state with
          | false =>
            have HO := Lib.hid ho
            clear ho
            go_wp2_with (go_at_call 21; refine (open_any _ _ _ _ _ _ _).mono ?_; rintro e w3 ⟨rfl, hb3⟩; obtain ⟨hc3, hf3⟩ := bcell hb3; have HB3 := Lib.hid hb3; clear hb3; simp only [show openB x.state = false from HO.out])
            go_roundg (l.length - (i + 1))
            case measure => omega
            case rel => exact ⟨i + 1, by go_num, by omega, by omega, by rw [← sup_same _ l i x HX.out (by unfold superseded; rw [if_neg (by rw [HO.out]; simp)])]; exact own_below (HW.out.alloc _) HB3.out, (HBr.out.alloc HBr.out.size _).trans (HB3.out.mono (by have := HBr.out.size; simp; omega))⟩
          | true =>
            have HO := Lib.hid ho
            clear ho
            by_cases hge : frm ≤ x.frm
            · go_wp2_with (go_at_call 21; refine (open_any _ _ _ _ _ _ _).mono ?_; rintro e w3 ⟨rfl, hb3⟩; obtain ⟨hc3, hf3⟩ := bcell hb3; have HB3 := Lib.hid hb3; clear hb3; simp only [show openB x.state = true from HO.out])
              go_roundg (l.length - (i + 1))
              case measure => omega
              case rel =>
                have hsx : superseded (frm) x = { x with state := 5 } := by unfold superseded; rw [if_pos ⟨HO.out, hge⟩]
                have h5 := own_field (f := 4) (v := .int .i64 5) encR_len (own_below (HW.out.alloc _) HB3.out) (by decide) (sup_at (frm) l i x HX.out) (x' := superseded (frm) x) (by rw [hsx]; rfl)
                rw [sup_step (frm) l i x HX.out] at h5
                exact ⟨i + 1, by go_num, by omega, by omega, h5.1, ((HBr.out.alloc HBr.out.size _).trans (HB3.out.mono (by have := HBr.out.size; simp; omega))).setCell hbw _⟩
            · go_wp2_with (go_at_call 21; refine (open_any _ _ _ _ _ _ _).mono ?_; rintro e w3 ⟨rfl, hb3⟩; obtain ⟨hc3, hf3⟩ := bcell hb3; have HB3 := Lib.hid hb3; clear hb3; simp only [show openB x.state = true from HO.out])
              go_roundg (l.length - (i + 1))
              case measure => omega
              case rel => exact ⟨i + 1, by go_num, by omega, by omega, by rw [← sup_same _ l i x HX.out (by unfold superseded; rw [if_neg (by intro h; have := h.2; omega)])]; exact own_below (HW.out.alloc _) HB3.out, (HBr.out.alloc HBr.out.size _).trans (HB3.out.mono (by have := HBr.out.size; simp; omega))⟩
        · have hltz : ¬ (i : Int) < (l.length : Int) := by omega
          obtain rfl : i = l.length := by omega
          clear hltz hlt hg hi
          have HO5 : Hid (wr.ownsRow w.heap.size 39 6 (.slice (some ⟨b, 0, none⟩) l.length cap) l.length ((l.map (superseded (frm))).flatMap encR)) := Lib.hid (by simpa using HW.out)
          have HB5 := HBr
          clear HW HBr
          go_wp2_with fail
          refine (Open_any (some ⟨b, 0, none⟩) l.length cap (l.map (superseded (frm))) _ (SlT.of_own encR_len HO5.out (by simp)) (by omega)).mono ?_
          rintro e w6 ⟨v6, rfl, hown6, hb6⟩
          obtain ⟨A6, c6, rfl⟩ := own_shape hown6
          clear hown6
          generalize hk : (openL (l.map (superseded (frm)))).length = k6
          have HK := Lib.hid hk
          clear hk
          by_cases hfull : 3 ≤ k6
          · go_wp2
            go_ret3
            unfold Answer
            have e : askEnd l (frm) ver back = ([], 0, 6) := by unfold askEnd; rw [HK.out, if_pos hfull]
            rw [e]
            exact ⟨_, rfl, SlV.nil, HB5.out.trans (hb6.mono HB5.out.size)⟩
          · have hnb : l.length ≤ 100000 := hn
            go_wp2_with (at_builtin; refine wpList_append_sl (k := 6) (enc := encR) _ rfl _ _ 28 rfl w.heap.size 39 _ 48 Try.underlying28 info_Rep rfl (by decide) encR_len encR_one (.slice (some ⟨b, 0, none⟩) l.length cap) l.length (l.map (superseded (frm))) rfl ((own_below HO5.out hb6).alloc _) _ 1 1 _ rfl (SlT.one6 _ _ _ _ _ _ _ _) (by unfold maxLen; omega) (by omega) (by have := HB5.out.size; have := hb6.size; simp; omega) ?_)
            intro v4 w4 hown4 hg4 _
            have HO4 := Lib.hid hown4
            have HG4 := Lib.hid hg4
            clear hown4 hg4
            go_wp2
            go_ret3
            unfold Answer
            have e : askEnd l (frm) ver back = (l.map (superseded (frm)) ++ [⟨l.length + 1, frm, ver, max 0 (frm - back), 0, 0⟩], frm, 0) := by unfold askEnd; rw [HK.out, if_neg hfull]
            rw [e]
            refine ⟨v4, rfl, ?_, ?_⟩
            · exact slv_snoc6 (by first | rfl | omega | (simp only [Int.max_def]; split <;> omega)) HO4.out
            · exact (((HB5.out.trans (hb6.mono HB5.out.size)).alloc (by have := HB5.out.size; have := hb6.size; omega) _)).grown HG4.out (by have := HB5.out.size; have := hb6.size; simp; omega) (by intro k hk; simp [Value.ownBlock] at hk; omega)

set_option maxHeartbeats 4000000 in
set_option maxRecDepth 100000 in
theorem ask_plain1 (A : Option Addr) (n c : Nat) (l : List Rep) (frm ver back hor : Int) (raise : Bool) (w : World) (hr : SlT 6 encR w A n c l) (hn : n ≤ 100000)
    (h0 : withinB frm 0 1099511627776 = true) (h1 : withinB ver 1 50 = true) (h2 : withinB back 0 1099511627776 = true) (h3 : withinB hor 0 1099511627776 = true)
    (hb : ¬ ((firstR l).isSome = true ∧ ((firstR l).getD repZ).state = 2)) (hp : 0 < hor) (hge : hor + back ≤ frm) :
    Calls Try.prog 9 #[.slice A n c, .int .i64 frm, .int .i64 ver, .int .i64 back, .int .i64 hor, .bool raise] w (Answer w (askEnd l (frm) ver back)) := by
  have hfb : back < frm := by omega
  obtain rfl := hr.1
  have H0 := Lib.hid h0
  have H1 := Lib.hid h1
  have H2 := Lib.hid h2
  have H3 := Lib.hid h3
  have HR := Lib.hid hr
  simp only [withinB, decide_eq_true_eq] at h0 h2 h3
  obtain ⟨g0, g1⟩ := h0
  obtain ⟨g2, g3⟩ := h2
  obtain ⟨g4, g5⟩ := h3
  clear h1 hr
  generalize hr : (firstR l).getD repZ = r at hb
  generalize hs : (firstR l).isSome = s at hb
  have HF := Lib.hid hr
  have HS := Lib.hid hs
  clear hr hs
  have hne : s = true → (r.state == 2) = false := by
    intro h
    simpa [h] using hb
  clear hb
  go_enter Try.func9, Try.ntmps9
  go_wp2_with (go_at_call 18; refine (within_any _ _ _ _).mono ?_; rintro e w' ⟨rfl, rfl⟩; simp only [show withinB frm 0 1099511627776 = true from H0.out, show withinB ver 1 50 = true from H1.out, show withinB back 0 1099511627776 = true from H2.out, show withinB hor 0 1099511627776 = true from H3.out])
  refine (first_any A l.length c l _ HR.out (by omega)).mono ?_
  rintro e w1 ⟨rfl, hb1⟩
  rw [HF.out, HS.out]
  simp only [aggR]
  have HB1 := Lib.hid hb1
  clear hb1
  rcases Bool.eq_false_or_eq_true s with rfl | rfl
  all_goals
    first | replace hne := hne rfl | clear hne
    go_wp2_with fail
    refine (cloneR_any A l.length c l _ ((HR.out.below HB1.out).alloc _) (by omega)).mono ?_
    rintro e w2 ⟨v, rfl, hown, hb2⟩
    have HB2 := Lib.hid ((HB1.out.alloc HB1.out.size _).trans (hb2.mono (by have := HB1.out.size; simp; omega)))
    have HO2 := Lib.hid (own_mono (base' := w.heap.size) hown (by have := HB1.out.size; simp; omega))
    clear hown hb2
    rcases HO2.out.2 with ⟨rfl, hz⟩ | ⟨b, cap, cur, rfl, _⟩
    · obtain rfl : l = [] := List.eq_nil_of_length_eq_zero hz
      go_wp2
      refine wp_loop_rounds 1 ?_
      rw [rounds_succ]
      go_wp2_with fail
      refine (Open_any none 0 0 [] _ (SlT.nil _ _) (by omega)).mono ?_
      rintro e w3 ⟨v3, rfl, hown3, hb3⟩
      obtain ⟨A3, c3, rfl⟩ := own_shape hown3
      have hl0 : (openL ([] : List Rep)).length = 0 := rfl
      rw [hl0]
      clear hown3
      go_wp2_with (at_builtin; refine wpList_append_sl (k := 6) (enc := encR) _ rfl _ _ 28 rfl w.heap.size 39 _ 48 Try.underlying28 info_Rep rfl (by decide) encR_len encR_one (.slice none 0 0) 0 [] rfl (World.ownsRow_nil _ _ _ _) _ 1 1 _ rfl (SlT.one6 _ _ _ _ _ _ _ _) (by unfold maxLen; omega) (by omega) (by have := HB2.out.size; have := hb3.size; simp; omega) ?_)
      intro v4 w4 hown4 hg4 _
      have HO4 := Lib.hid hown4
      have HG4 := Lib.hid hg4
      clear hown4 hg4
      go_wp2
      go_ret3
      unfold Answer
      refine ⟨v4, ?_, ?_, ?_⟩
      · simp [askEnd, openL]
      · have h := SlV.of_own (l := [] ++ [_]) encR_len HO4.out
        exact ans_eq (l := []) (by first | rfl | omega | (simp only [Int.max_def]; split <;> omega)) h
      · exact (((HB2.out.trans (hb3.mono HB2.out.size)).alloc (by have := HB2.out.size; have := hb3.size; omega) _)).grown HG4.out (by have := HB2.out.size; have := hb3.size; simp; omega) (by intro k hk; simp [Value.ownBlock] at hk)
    · go_wp2
      go_loopg [72] l.length (fun gg s72 wr => ∃ i : Nat, s72 = .int .i64 i ∧ i ≤ l.length ∧ l.length - i ≤ gg ∧ Hid (wr.ownsRow w.heap.size 39 6 (.slice (some ⟨b, 0, none⟩) l.length cap) l.length (((l.take i).map (superseded (frm)) ++ l.drop i).flatMap encR)) ∧ Hid (Below w.heap.size w wr))
      case atStart => exact ⟨0, rfl, by omega, by omega, Lib.hid (by simpa using HO2.out), HB2.out⟩
      case round =>
        obtain ⟨i, rfl, hi, hg, HW, HBr⟩ := hrel
        obtain ⟨hbw, hbl⟩ := own_block_lt HW.out
        by_cases hlt : i < l.length
        · have hltz : (i : Int) < (l.length : Int) := by omega
          obtain ⟨x, hx⟩ : ∃ x, l[i]? = some x := ⟨_, List.getElem?_eq_getElem hlt⟩
          have hx' := sup_at (frm) l i x hx
          obtain ⟨c0, c1, c2, c3, c4, c5⟩ := ownR_cells HW.out hx'
          have fz := (own_cell encR_len (by decide) HW.out (f := 4) (by decide) hx' rfl).2
          have HX := Lib.hid hx
          clear hx hx'
          cases ho : openB x.state with
          | false =>
            have HO := Lib.hid ho
            clear ho
            go_wp2_with (go_at_call 21; refine (open_any _ _ _ _ _ _ _).mono ?_; rintro e w3 ⟨rfl, hb3⟩; obtain ⟨hc3, hf3⟩ := bcell hb3; have HB3 := Lib.hid hb3; clear hb3; simp only [show openB x.state = false from HO.out])
            go_roundg (l.length - (i + 1))
            case measure => omega
            case rel => exact ⟨i + 1, by go_num, by omega, by omega, by rw [← sup_same _ l i x HX.out (by unfold superseded; rw [if_neg (by rw [HO.out]; simp)])]; exact own_below (HW.out.alloc _) HB3.out, (HBr.out.alloc HBr.out.size _).trans (HB3.out.mono (by have := HBr.out.size; simp; omega))⟩
          | true =>
            have HO := Lib.hid ho
            clear ho
            by_cases hge : frm ≤ x.frm
            · go_wp2_with (go_at_call 21; refine (open_any _ _ _ _ _ _ _).mono ?_; rintro e w3 ⟨rfl, hb3⟩; obtain ⟨hc3, hf3⟩ := bcell hb3; have HB3 := Lib.hid hb3; clear hb3; simp only [show openB x.state = true from HO.out])
              go_roundg (l.length - (i + 1))
              case measure => omega
              case rel =>
                have hsx : superseded (frm) x = { x with state := 5 } := by unfold superseded; rw [if_pos ⟨HO.out, hge⟩]
                have h5 := own_field (f := 4) (v := .int .i64 5) encR_len (own_below (HW.out.alloc _) HB3.out) (by decide) (sup_at (frm) l i x HX.out) (x' := superseded (frm) x) (by rw [hsx]; rfl)
                rw [sup_step (frm) l i x HX.out] at h5
                exact ⟨i + 1, by go_num, by omega, by omega, h5.1, ((HBr.out.alloc HBr.out.size _).trans (HB3.out.mono (by have := HBr.out.size; simp; omega))).setCell hbw _⟩
            · go_wp2_with (go_at_call 21; refine (open_any _ _ _ _ _ _ _).mono ?_; rintro e w3 ⟨rfl, hb3⟩; obtain ⟨hc3, hf3⟩ := bcell hb3; have HB3 := Lib.hid hb3; clear hb3; simp only [show openB x.state = true from HO.out])
              go_roundg (l.length - (i + 1))
              case measure => omega
              case rel => exact ⟨i + 1, by go_num, by omega, by omega, by rw [← sup_same _ l i x HX.out (by unfold superseded; rw [if_neg (by intro h; have := h.2; omega)])]; exact own_below (HW.out.alloc _) HB3.out, (HBr.out.alloc HBr.out.size _).trans (HB3.out.mono (by have := HBr.out.size; simp; omega))⟩
        · have hltz : ¬ (i : Int) < (l.length : Int) := by omega
          obtain rfl : i = l.length := by omega
          clear hltz hlt hg hi
          have HO5 : Hid (wr.ownsRow w.heap.size 39 6 (.slice (some ⟨b, 0, none⟩) l.length cap) l.length ((l.map (superseded (frm))).flatMap encR)) := Lib.hid (by simpa using HW.out)
          have HB5 := HBr
          clear HW HBr
          go_wp2_with fail
          refine (Open_any (some ⟨b, 0, none⟩) l.length cap (l.map (superseded (frm))) _ (SlT.of_own encR_len HO5.out (by simp)) (by omega)).mono ?_
          rintro e w6 ⟨v6, rfl, hown6, hb6⟩
          obtain ⟨A6, c6, rfl⟩ := own_shape hown6
          clear hown6
          generalize hk : (openL (l.map (superseded (frm)))).length = k6
          have HK := Lib.hid hk
          clear hk
          by_cases hfull : 3 ≤ k6
          · go_wp2
            go_ret3
            unfold Answer
            have e : askEnd l (frm) ver back = ([], 0, 6) := by unfold askEnd; rw [HK.out, if_pos hfull]
            rw [e]
            exact ⟨_, rfl, SlV.nil, HB5.out.trans (hb6.mono HB5.out.size)⟩
          · have hnb : l.length ≤ 100000 := hn
            go_wp2_with (at_builtin; refine wpList_append_sl (k := 6) (enc := encR) _ rfl _ _ 28 rfl w.heap.size 39 _ 48 Try.underlying28 info_Rep rfl (by decide) encR_len encR_one (.slice (some ⟨b, 0, none⟩) l.length cap) l.length (l.map (superseded (frm))) rfl ((own_below HO5.out hb6).alloc _) _ 1 1 _ rfl (SlT.one6 _ _ _ _ _ _ _ _) (by unfold maxLen; omega) (by omega) (by have := HB5.out.size; have := hb6.size; simp; omega) ?_)
            intro v4 w4 hown4 hg4 _
            have HO4 := Lib.hid hown4
            have HG4 := Lib.hid hg4
            clear hown4 hg4
            go_wp2
            go_ret3
            unfold Answer
            have e : askEnd l (frm) ver back = (l.map (superseded (frm)) ++ [⟨l.length + 1, frm, ver, max 0 (frm - back), 0, 0⟩], frm, 0) := by unfold askEnd; rw [HK.out, if_neg hfull]
            rw [e]
            refine ⟨v4, rfl, ?_, ?_⟩
            · exact slv_snoc6 (by first | rfl | omega | (simp only [Int.max_def]; split <;> omega)) HO4.out
            · exact (((HB5.out.trans (hb6.mono HB5.out.size)).alloc (by have := HB5.out.size; have := hb6.size; omega) _)).grown HG4.out (by have := HB5.out.size; have := hb6.size; simp; omega) (by intro k hk; simp [Value.ownBlock] at hk; omega)
end Go.Proofs.Ytpdmjahdnfhcoaa
