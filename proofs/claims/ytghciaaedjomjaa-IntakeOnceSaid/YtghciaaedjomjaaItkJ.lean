/- intake: the law's records, small. -/
import Derived.Test.YtghciaaedjomjaaItkI
namespace Go.Proofs.Ytghciaaedjomjaa
open Go.RowKit

def EntryPost (w : World) (sq tm n : Int) (e : Ending) (w' : World) : Prop := ∃ b, e = .returned (.agg #[.int .i64 0, .int .i64 7, .int .i64 0, .int .i64 sq, .string ⟨#[115]⟩, .int .i64 1, .int .i64 tm, .slice (some ⟨b, 0, none⟩) 1 1]) ∧ SlT 3 encV w' (some ⟨b, 0, none⟩) 1 1 [⟨0, n, ⟨#[]⟩⟩] ∧ Below w.heap.size w w'
set_option maxRecDepth 100000 in
theorem entry_any (sq tm n : Int) (w : World) : Calls Try.prog 34 #[.int .i64 sq, .int .i64 tm, .int .i64 n] w (EntryPost w sq tm n) := by
  go_enter Try.func34, Try.ntmps34
  go_wp2
  refine bodyPost_ret (v := .agg #[.int .i64 0, .int .i64 7, .int .i64 0, .int .i64 sq, .string ⟨#[115]⟩, .int .i64 1, .int .i64 tm, .slice (some ⟨w.heap.size + 1, 0, none⟩) 1 1]) (by simp [results, Try.results34, go_sem]) rfl ⟨w.heap.size + 1, rfl, ?_, ?_⟩
  · exact slT_block encV_len (Blk.new' _ _ 77 _ (by simp)) rfl rfl (Nat.le_refl _)
  · exact ((Below.refl _ w).alloc (Nat.le_refl _) _).alloc (by simp) _
def c1 : Cfg := ⟨0, 2, 5, 100, 1, 0⟩
theorem c1_right : RightC c1 := ⟨by decide, by decide, by decide, by decide⟩
def ia1 : ISt := (applyF c1 known1 ist0 ⟨0, 7, 0, 0, ⟨#[115]⟩, 1, 10, none, 1, 1⟩ [⟨0, 1, ⟨#[]⟩⟩]).2
theorem ia1_eq (a : Option Addr) : applyF c1 known1 ist0 ⟨0, 7, 0, 0, ⟨#[115]⟩, 1, 10, a, 1, 1⟩ [⟨0, 1, ⟨#[]⟩⟩] = ((0, 0), ia1) := by kernel_rfl
def ia2 : ISt := (applyF c1 known1 ia1 ⟨0, 7, 0, 0, ⟨#[115]⟩, 1, 10, none, 1, 1⟩ [⟨0, 1, ⟨#[]⟩⟩]).2
theorem ia2_eq (a : Option Addr) : applyF c1 known1 ia1 ⟨0, 7, 0, 0, ⟨#[115]⟩, 1, 10, a, 1, 1⟩ [⟨0, 1, ⟨#[]⟩⟩] = ((0, 5), ia2) := by kernel_rfl
def ia3 : ISt := (applyF c1 known1 ia2 ⟨0, 7, 0, 1, ⟨#[115]⟩, 1, 10, none, 1, 1⟩ [⟨0, 2, ⟨#[]⟩⟩]).2
theorem ia3_eq (a : Option Addr) : applyF c1 known1 ia2 ⟨0, 7, 0, 1, ⟨#[115]⟩, 1, 10, a, 1, 1⟩ [⟨0, 2, ⟨#[]⟩⟩] = ((0, 22), ia3) := by kernel_rfl
def ia4 : ISt := (applyF c1 known1 ia3 ⟨0, 7, 0, 1, ⟨#[115]⟩, 1, 4, none, 1, 1⟩ [⟨0, 2, ⟨#[]⟩⟩]).2
theorem ia4_eq (a : Option Addr) : applyF c1 known1 ia3 ⟨0, 7, 0, 1, ⟨#[115]⟩, 1, 4, a, 1, 1⟩ [⟨0, 2, ⟨#[]⟩⟩] = ((0, 20), ia4) := by kernel_rfl
def ia5 : ISt := (applyF c1 known1 ia4 ⟨0, 7, 0, 1, ⟨#[115]⟩, 1, 5, none, 1, 1⟩ [⟨0, 2, ⟨#[]⟩⟩]).2
theorem ia5_eq (a : Option Addr) : applyF c1 known1 ia4 ⟨0, 7, 0, 1, ⟨#[115]⟩, 1, 5, a, 1, 1⟩ [⟨0, 2, ⟨#[]⟩⟩] = ((1, 0), ia5) := by kernel_rfl
def ia6 : ISt := (applyF c1 known1 ia5 ⟨0, 7, 0, 2, ⟨#[115]⟩, 1, 101, none, 1, 1⟩ [⟨0, 1, ⟨#[]⟩⟩]).2
theorem ia6_eq (a : Option Addr) : applyF c1 known1 ia5 ⟨0, 7, 0, 2, ⟨#[115]⟩, 1, 101, a, 1, 1⟩ [⟨0, 1, ⟨#[]⟩⟩] = ((0, 21), ia6) := by kernel_rfl
theorem ia6_closed : closedF c1 ia6 = 4 := by kernel_rfl
theorem ia6_mark : markF c1 ia6 = 7 := by kernel_rfl
theorem ia6_ref : ia6.refused = 3 := by kernel_rfl
theorem ia1_inv : IInv c1 ia1 ∧ ia1.next ≤ 1 ∧ ia1.refused ≤ 1 := by
  have h := iinv_apply (ks := known1) (r := ⟨0, 7, 0, 0, ⟨#[115]⟩, 1, 10, none, 1, 1⟩) (vs := [⟨0, 1, ⟨#[]⟩⟩]) c1_right (iinv0 c1_right) (Nat.le_trans (Nat.le_refl 0) (by decide))
  have h2 := apply_next (c := c1) (ks := known1) (st := ist0) (r := ⟨0, 7, 0, 0, ⟨#[115]⟩, 1, 10, none, 1, 1⟩) (vs := [⟨0, 1, ⟨#[]⟩⟩])
  exact ⟨h, Nat.le_trans h2.1 (Nat.succ_le_succ (Nat.le_refl 0)), Nat.le_trans h2.2 (Nat.succ_le_succ (Nat.le_refl 0))⟩
theorem ia2_inv : IInv c1 ia2 ∧ ia2.next ≤ 2 ∧ ia2.refused ≤ 2 := by
  have h := iinv_apply (ks := known1) (r := ⟨0, 7, 0, 0, ⟨#[115]⟩, 1, 10, none, 1, 1⟩) (vs := [⟨0, 1, ⟨#[]⟩⟩]) c1_right (ia1_inv.1) (Nat.le_trans ia1_inv.2.1 (by decide))
  have h2 := apply_next (c := c1) (ks := known1) (st := ia1) (r := ⟨0, 7, 0, 0, ⟨#[115]⟩, 1, 10, none, 1, 1⟩) (vs := [⟨0, 1, ⟨#[]⟩⟩])
  exact ⟨h, Nat.le_trans h2.1 (Nat.succ_le_succ ia1_inv.2.1), Nat.le_trans h2.2 (Nat.succ_le_succ ia1_inv.2.2)⟩
theorem ia3_inv : IInv c1 ia3 ∧ ia3.next ≤ 3 ∧ ia3.refused ≤ 3 := by
  have h := iinv_apply (ks := known1) (r := ⟨0, 7, 0, 1, ⟨#[115]⟩, 1, 10, none, 1, 1⟩) (vs := [⟨0, 2, ⟨#[]⟩⟩]) c1_right (ia2_inv.1) (Nat.le_trans ia2_inv.2.1 (by decide))
  have h2 := apply_next (c := c1) (ks := known1) (st := ia2) (r := ⟨0, 7, 0, 1, ⟨#[115]⟩, 1, 10, none, 1, 1⟩) (vs := [⟨0, 2, ⟨#[]⟩⟩])
  exact ⟨h, Nat.le_trans h2.1 (Nat.succ_le_succ ia2_inv.2.1), Nat.le_trans h2.2 (Nat.succ_le_succ ia2_inv.2.2)⟩
theorem ia4_inv : IInv c1 ia4 ∧ ia4.next ≤ 4 ∧ ia4.refused ≤ 4 := by
  have h := iinv_apply (ks := known1) (r := ⟨0, 7, 0, 1, ⟨#[115]⟩, 1, 4, none, 1, 1⟩) (vs := [⟨0, 2, ⟨#[]⟩⟩]) c1_right (ia3_inv.1) (Nat.le_trans ia3_inv.2.1 (by decide))
  have h2 := apply_next (c := c1) (ks := known1) (st := ia3) (r := ⟨0, 7, 0, 1, ⟨#[115]⟩, 1, 4, none, 1, 1⟩) (vs := [⟨0, 2, ⟨#[]⟩⟩])
  exact ⟨h, Nat.le_trans h2.1 (Nat.succ_le_succ ia3_inv.2.1), Nat.le_trans h2.2 (Nat.succ_le_succ ia3_inv.2.2)⟩
theorem ia5_inv : IInv c1 ia5 ∧ ia5.next ≤ 5 ∧ ia5.refused ≤ 5 := by
  have h := iinv_apply (ks := known1) (r := ⟨0, 7, 0, 1, ⟨#[115]⟩, 1, 5, none, 1, 1⟩) (vs := [⟨0, 2, ⟨#[]⟩⟩]) c1_right (ia4_inv.1) (Nat.le_trans ia4_inv.2.1 (by decide))
  have h2 := apply_next (c := c1) (ks := known1) (st := ia4) (r := ⟨0, 7, 0, 1, ⟨#[115]⟩, 1, 5, none, 1, 1⟩) (vs := [⟨0, 2, ⟨#[]⟩⟩])
  exact ⟨h, Nat.le_trans h2.1 (Nat.succ_le_succ ia4_inv.2.1), Nat.le_trans h2.2 (Nat.succ_le_succ ia4_inv.2.2)⟩
theorem ia6_inv : IInv c1 ia6 ∧ ia6.next ≤ 6 ∧ ia6.refused ≤ 6 := by
  have h := iinv_apply (ks := known1) (r := ⟨0, 7, 0, 2, ⟨#[115]⟩, 1, 101, none, 1, 1⟩) (vs := [⟨0, 1, ⟨#[]⟩⟩]) c1_right (ia5_inv.1) (Nat.le_trans ia5_inv.2.1 (by decide))
  have h2 := apply_next (c := c1) (ks := known1) (st := ia5) (r := ⟨0, 7, 0, 2, ⟨#[115]⟩, 1, 101, none, 1, 1⟩) (vs := [⟨0, 1, ⟨#[]⟩⟩])
  exact ⟨h, Nat.le_trans h2.1 (Nat.succ_le_succ ia5_inv.2.1), Nat.le_trans h2.2 (Nat.succ_le_succ ia5_inv.2.2)⟩
theorem betw_known : known1.length ≤ 1000 := by decide
theorem cols_known : ∀ k ∈ known1, k.cols.length ≤ 1000 := by decide
theorem c1_r : rightB c1 = true := by decide
set_option maxHeartbeats 4000000 in
set_option maxRecDepth 100000 in
theorem small11_any (w : World) : Calls Try.prog 15 #[] w fun e w' => e = .returned (.bool true) ∧ Below w.heap.size w w' := by
  go_enter Try.func15, Try.ntmps15
  go_wp2_with fail
  refine (known_any _).mono ?_
  rintro e w1 ⟨A, cc, rfl, hk1, hb1⟩
  have HK1 := Lib.hid hk1
  have HB1 := Lib.hid hb1
  clear hk1 hb1
  go_wp2_with fail
  refine (new_any (G := fun _ => True) _ c1 A cc known1 _ HK1.out (fun _ _ => trivial) betw_known cols_known).mono ?_
  rintro e w2 hnew
  rcases hnew with ⟨hf, _⟩ | ⟨_, p, mb, rfl, hx2, hp2, hm2, hb2⟩
  · rw [c1_r] at hf; cases hf
  have HX := Lib.hid hx2
  have HB := Lib.hid (HB1.out.trans (hb2.mono HB1.out.size))
  have hpw : w.heap.size ≤ p := Nat.le_trans HB1.out.size hp2
  have hmw : w.heap.size ≤ mb := Nat.le_trans HB1.out.size hm2
  clear hx2 hb2 hp2 hm2 HK1 HB1
  go_wp2_with fail
  refine (entry_any _ _ _ _).mono ?_
  rintro e wa ⟨b, rfl, hr, hb⟩
  have HXA := Lib.hid (HX.out.below hb)
  have HBA := Lib.hid (HB.out.trans (hb.mono HB.out.size))
  have HR := Lib.hid hr
  clear hr hb HX HB
  go_wp2_with fail
  refine (apply_any HXA.out (fun _ _ => trivial) (iinv0 c1_right) c1_right betw_known (Nat.zero_le _) (Nat.zero_le _) ⟨0, 7, 0, 0, ⟨#[115]⟩, 1, 10, some ⟨b, 0, none⟩, 1, 1⟩ [⟨0, 1, ⟨#[]⟩⟩] HR.out (by show (1 : Nat) ≤ 1000000; omega)).mono ?_
  rintro e wb ⟨rfl, hx, ht⟩
  rw [ia1_eq] at hx
  rw [ia1_eq]
  have HX := Lib.hid hx
  have HB := Lib.hid (HBA.out.trans (ht.below HBA.out.size hpw hmw))
  clear hx ht HXA HBA HR
  go_wp2_with fail
  refine (entry_any _ _ _ _).mono ?_
  rintro e wa ⟨b, rfl, hr, hb⟩
  have HXA := Lib.hid (HX.out.below hb)
  have HBA := Lib.hid (HB.out.trans (hb.mono HB.out.size))
  have HR := Lib.hid hr
  clear hr hb HX HB
  go_wp2_with fail
  refine (apply_any HXA.out (fun _ _ => trivial) ia1_inv.1 c1_right betw_known (Nat.le_trans ia1_inv.2.1 (by decide)) (Nat.le_trans ia1_inv.2.2 (by decide)) ⟨0, 7, 0, 0, ⟨#[115]⟩, 1, 10, some ⟨b, 0, none⟩, 1, 1⟩ [⟨0, 1, ⟨#[]⟩⟩] HR.out (by show (1 : Nat) ≤ 1000000; omega)).mono ?_
  rintro e wb ⟨rfl, hx, ht⟩
  rw [ia2_eq] at hx
  rw [ia2_eq]
  have HX := Lib.hid hx
  have HB := Lib.hid (HBA.out.trans (ht.below HBA.out.size hpw hmw))
  clear hx ht HXA HBA HR
  go_wp2_with fail
  refine (entry_any _ _ _ _).mono ?_
  rintro e wa ⟨b, rfl, hr, hb⟩
  have HXA := Lib.hid (HX.out.below hb)
  have HBA := Lib.hid (HB.out.trans (hb.mono HB.out.size))
  have HR := Lib.hid hr
  clear hr hb HX HB
  go_wp2_with fail
  refine (apply_any HXA.out (fun _ _ => trivial) ia2_inv.1 c1_right betw_known (Nat.le_trans ia2_inv.2.1 (by decide)) (Nat.le_trans ia2_inv.2.2 (by decide)) ⟨0, 7, 0, 1, ⟨#[115]⟩, 1, 10, some ⟨b, 0, none⟩, 1, 1⟩ [⟨0, 2, ⟨#[]⟩⟩] HR.out (by show (1 : Nat) ≤ 1000000; omega)).mono ?_
  rintro e wb ⟨rfl, hx, ht⟩
  rw [ia3_eq] at hx
  rw [ia3_eq]
  have HX := Lib.hid hx
  have HB := Lib.hid (HBA.out.trans (ht.below HBA.out.size hpw hmw))
  clear hx ht HXA HBA HR
  go_wp2_with fail
  refine (entry_any _ _ _ _).mono ?_
  rintro e wa ⟨b, rfl, hr, hb⟩
  have HXA := Lib.hid (HX.out.below hb)
  have HBA := Lib.hid (HB.out.trans (hb.mono HB.out.size))
  have HR := Lib.hid hr
  clear hr hb HX HB
  go_wp2_with fail
  refine (apply_any HXA.out (fun _ _ => trivial) ia3_inv.1 c1_right betw_known (Nat.le_trans ia3_inv.2.1 (by decide)) (Nat.le_trans ia3_inv.2.2 (by decide)) ⟨0, 7, 0, 1, ⟨#[115]⟩, 1, 4, some ⟨b, 0, none⟩, 1, 1⟩ [⟨0, 2, ⟨#[]⟩⟩] HR.out (by show (1 : Nat) ≤ 1000000; omega)).mono ?_
  rintro e wb ⟨rfl, hx, ht⟩
  rw [ia4_eq] at hx
  rw [ia4_eq]
  have HX := Lib.hid hx
  have HB := Lib.hid (HBA.out.trans (ht.below HBA.out.size hpw hmw))
  clear hx ht HXA HBA HR
  go_wp2_with fail
  refine (entry_any _ _ _ _).mono ?_
  rintro e wa ⟨b, rfl, hr, hb⟩
  have HXA := Lib.hid (HX.out.below hb)
  have HBA := Lib.hid (HB.out.trans (hb.mono HB.out.size))
  have HR := Lib.hid hr
  clear hr hb HX HB
  go_wp2_with fail
  refine (apply_any HXA.out (fun _ _ => trivial) ia4_inv.1 c1_right betw_known (Nat.le_trans ia4_inv.2.1 (by decide)) (Nat.le_trans ia4_inv.2.2 (by decide)) ⟨0, 7, 0, 1, ⟨#[115]⟩, 1, 5, some ⟨b, 0, none⟩, 1, 1⟩ [⟨0, 2, ⟨#[]⟩⟩] HR.out (by show (1 : Nat) ≤ 1000000; omega)).mono ?_
  rintro e wb ⟨rfl, hx, ht⟩
  rw [ia5_eq] at hx
  rw [ia5_eq]
  have HX := Lib.hid hx
  have HB := Lib.hid (HBA.out.trans (ht.below HBA.out.size hpw hmw))
  clear hx ht HXA HBA HR
  go_wp2_with fail
  refine (entry_any _ _ _ _).mono ?_
  rintro e wa ⟨b, rfl, hr, hb⟩
  have HXA := Lib.hid (HX.out.below hb)
  have HBA := Lib.hid (HB.out.trans (hb.mono HB.out.size))
  have HR := Lib.hid hr
  clear hr hb HX HB
  go_wp2_with fail
  refine (apply_any HXA.out (fun _ _ => trivial) ia5_inv.1 c1_right betw_known (Nat.le_trans ia5_inv.2.1 (by decide)) (Nat.le_trans ia5_inv.2.2 (by decide)) ⟨0, 7, 0, 2, ⟨#[115]⟩, 1, 101, some ⟨b, 0, none⟩, 1, 1⟩ [⟨0, 1, ⟨#[]⟩⟩] HR.out (by show (1 : Nat) ≤ 1000000; omega)).mono ?_
  rintro e wb ⟨rfl, hx, ht⟩
  rw [ia6_eq] at hx
  rw [ia6_eq]
  have HX := Lib.hid hx
  have HB := Lib.hid (HBA.out.trans (ht.below HBA.out.size hpw hmw))
  clear hx ht HXA HBA HR
  go_wp2_with fail
  refine (closed_any HX.out (by decide) ia6_inv.1.top).mono ?_
  rintro e wa ⟨rfl, hb⟩
  rw [ia6_closed]
  have HXA := Lib.hid (HX.out.below hb)
  have HBA := Lib.hid (HB.out.trans (hb.mono HB.out.size))
  clear hb HX HB
  go_wp2_with fail
  refine (mark_any HXA.out (by decide) ia6_inv.1.top).mono ?_
  rintro e wb ⟨rfl, hb⟩
  rw [ia6_mark]
  have HX := Lib.hid (HXA.out.below hb)
  have HB := Lib.hid (HBA.out.trans (hb.mono HBA.out.size))
  clear hb HXA HBA
  go_wp2_with fail
  refine (refused_any HX.out).mono ?_
  rintro e wa ⟨rfl, hb⟩
  rw [ia6_ref]
  have HBA := Lib.hid (HB.out.trans (hb.mono HB.out.size))
  clear hb
  go_wp2
  go_ret
  exact ⟨rfl, HBA.out⟩
end Go.Proofs.Ytghciaaedjomjaa
