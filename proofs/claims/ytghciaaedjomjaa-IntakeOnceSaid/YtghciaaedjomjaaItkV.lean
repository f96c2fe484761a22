/- Values and rows: value.Int, Text, Bool, Right, RightRow. -/
import Derived.Test.YtghciaaedjomjaaItkP
import Derived.Test.YtghciaaedjomjaaProdM
import Derived.Laws.StructEq
namespace Go.Proofs.Ytghciaaedjomjaa
open Go.RowKit

def encV (v : VVal) : List Value := [.int .i64 v.kind, .int .i64 v.n, .string v.s]
theorem encV_len (v : VVal) : (encV v).length = 3 := rfl
theorem encV_one (v : VVal) : ∀ u ∈ encV v, u.oneCell' = true := by simp [encV, Value.oneCell']
theorem cellsV {w W : World} {b off : Nat} {l : List VVal} (hx : ∀ j x, l[j]? = some x → ∀ i v, (encV x)[i]? = some v → w.cell? ⟨b, off + j * 3 + i, none⟩ = some v) (hb : b < w.heap.size) (hW : Below w.heap.size w W) {j : Nat} {x : VVal} (hj : l[j]? = some x) :
    W.cell? ⟨b, off + j * 3, none⟩ = some (.int .i64 x.kind) ∧ W.cell? ⟨b, off + j * 3 + 1, none⟩ = some (.int .i64 x.n) ∧ W.cell? ⟨b, off + j * 3 + 2, none⟩ = some (.string x.s) :=
  ⟨(hW.cell (p := ⟨_, _, none⟩) hb).trans (hx j x hj 0 _ rfl), (hW.cell (p := ⟨_, _, none⟩) hb).trans (hx j x hj 1 _ rfl), (hW.cell (p := ⟨_, _, none⟩) hb).trans (hx j x hj 2 _ rfl)⟩
theorem Blk.three {w : World} {g : Nat} {t : TypeId} {a b c : Value} (h : Blk w g t #[a, b, c]) : w.cell? ⟨g, 0, none⟩ = some a ∧ w.cell? ⟨g, 1, none⟩ = some b ∧ w.cell? ⟨g, 2, none⟩ = some c ∧ ∀ i, w.frozen? ⟨g, i, none⟩ = false :=
  ⟨h.cell 0, h.cell 1, h.cell 2, h.frozen⟩
theorem eql_val (a b : Int) (s : ByteArray) (a' b' : Int) (s' : ByteArray) (w : World) :
    (binOp .eql 77 (.agg #[.int .i64 a, .int .i64 b, .string s]) (.agg #[.int .i64 a', .int .i64 b', .string s'])).run Try.prog w = .ok (.bool (a == a' && (b == b' && s.toList == s'.toList))) w := by
  have hS : Try.prog.underlying 77 = some (.struct (Try.prog.fieldsOf 77)) := by kernel_rfl
  have hp : Try.prog.stoodInHeld 77 = false := by kernel_rfl
  rw [run_eql_struct, run_equalIn_struct w 9999 _ _ _ hS hp]
  simp only [Program.fieldsOf, Try.underlying77]
  have hi := Try.underlying3
  have hs := Try.underlying9
  simp only [Op.eqFields, part, typeInfo]
  cases h1 : (a == a') <;> cases h2 : (b == b') <;> by_cases h3 : s.toList = s'.toList <;> simp [Op.eqFields, part, typeInfo, Go.run_equalIn_int (h := hi), Go.run_equalIn_string (h := hs), h1, h2, h3]
theorem guard_val : Try.prog.eqGuardType Try.prog.depth 77 = false := by kernel_rfl

def ValPost (w : World) (k n : Int) (s : ByteArray) (e : Ending) (w' : World) : Prop := e = .returned (.agg #[.int .i64 k, .int .i64 n, .string s]) ∧ Below w.heap.size w w'
set_option maxRecDepth 100000 in
theorem vint_any (n : Int) (w : World) : Calls Try.prog 65 #[.int .i64 n] w (ValPost w 0 n ⟨#[]⟩) := by
  go_enter Try.func65, Try.ntmps65
  go_wp2
  refine bodyPost_ret (v := .agg #[.int .i64 0, .int .i64 n, .string ⟨#[]⟩]) (by simp [results, Try.results65, go_sem]) rfl ⟨rfl, ?_⟩
  first
    | exact (Below.refl _ w).alloc (Nat.le_refl _) _
    | (iterate 3 (refine Below.setCell ?_ (by exact Nat.le_refl _) _)
       exact (Below.refl _ w).alloc (Nat.le_refl _) _)
set_option maxRecDepth 100000 in
theorem vtext_any (s : ByteArray) (w : World) : Calls Try.prog 66 #[.string s] w (ValPost w 1 0 s) := by
  go_enter Try.func66, Try.ntmps66
  go_wp2
  refine bodyPost_ret (v := .agg #[.int .i64 1, .int .i64 0, .string s]) (by simp [results, Try.results66, go_sem]) rfl ⟨rfl, ?_⟩
  first
    | exact (Below.refl _ w).alloc (Nat.le_refl _) _
    | (iterate 3 (refine Below.setCell ?_ (by exact Nat.le_refl _) _)
       exact (Below.refl _ w).alloc (Nat.le_refl _) _)
set_option maxRecDepth 100000 in
theorem vbool_any (b : Bool) (w : World) : Calls Try.prog 67 #[.bool b] w (ValPost w 2 (if b then 1 else 0) ⟨#[]⟩) := by
  cases b
  · go_enter Try.func67, Try.ntmps67
    go_wp2
    refine bodyPost_ret (v := .agg #[.int .i64 2, .int .i64 0, .string ⟨#[]⟩]) (by simp [results, Try.results67, go_sem]) rfl ⟨rfl, ?_⟩
    first
      | exact (Below.refl _ w).alloc (Nat.le_refl _) _
      | (iterate 3 (refine Below.setCell ?_ (by exact Nat.le_refl _) _)
         exact (Below.refl _ w).alloc (Nat.le_refl _) _)
  · go_enter Try.func67, Try.ntmps67
    go_wp2
    refine bodyPost_ret (v := .agg #[.int .i64 2, .int .i64 1, .string ⟨#[]⟩]) (by simp [results, Try.results67, go_sem]) rfl ⟨rfl, ?_⟩
    first
      | exact (Below.refl _ w).alloc (Nat.le_refl _) _
      | (iterate 3 (refine Below.setCell ?_ (by exact Nat.le_refl _) _)
         exact (Below.refl _ w).alloc (Nat.le_refl _) _)

set_option maxHeartbeats 2000000 in
set_option maxRecDepth 100000 in
theorem vright_any (v : VVal) (w : World) :
    Calls Try.prog 63 #[.agg #[.int .i64 v.kind, .int .i64 v.n, .string v.s]] w fun e w' => e = .returned (.bool (rightV v)) ∧ Below w.heap.size w w' := by
  obtain ⟨k, n, s⟩ := v
  have HKB := Lib.hid (Blk.new w 77 #[.int .i64 k, .int .i64 n, .string s])
  have hgv := guard_val
  have HB0 : Hid (Below w.heap.size w (w.alloc (.cells #[.int .i64 k, .int .i64 n, .string s] 77))) := Lib.hid ((Below.refl _ w).alloc (Nat.le_refl _) _)
  by_cases k0 : k = 0
  · subst k0
    have HR : Hid (rightV ⟨0, n, s⟩ = (s.toList == [])) := Lib.hid (by simp [rightV])
    obtain ⟨B, hBe⟩ : ∃ B, (s.toList == []) = B := ⟨_, rfl⟩
    have hE : ∀ w, (binOp .eql 77 (.agg #[.int .i64 0, .int .i64 n, .string s]) (.agg #[.int .i64 0, .int .i64 n, .string ⟨#[]⟩])).run Try.prog w = .ok (.bool B) w := fun w => by rw [eql_val, ← hBe]; simp
    rw [HR.out, hBe]
    clear hBe HR
    go_enter Try.func63, Try.ntmps63
    go_wp2_with fail
    obtain ⟨m0, m1, m2, mf⟩ := HKB.out.three
    refine wp_region_noPanic ?_
    refine wp_region_held_drew (S := fun w' => w'.cell? ⟨w.heap.size, 0, none⟩ = some (.int .i64 0) ∧ w'.cell? ⟨w.heap.size, 1, none⟩ = some (.int .i64 n) ∧ w'.cell? ⟨w.heap.size, 2, none⟩ = some (.string s)) (by kernel_rfl) ?_ (fun hHeld => ?_)
    · first | exact ⟨by assumption, by assumption⟩ | go_keep
    refine take_yes (i := 0) (some 7) (v := ?ve0) (by simp only [List.getElem?_toArray, List.getElem?_cons_zero]; exact rfl) rfl (by kernel_rfl) (by kernel_rfl) (by kernel_rfl) (fun _ _ _ h => h) (by rfl) ?hye0 (by assumption) ?reste0
    case hye0 => (intro w hSw; (try dsimp only at hSw); go_simp; try with_reducible rfl)
    try simp only [Act.put, List.setIfInBounds_toArray, List.set_cons_zero, List.set_cons_succ]
    refine take_yes (i := 1) (some 8) (v := ?ve1) (by simp only [List.getElem?_toArray, List.getElem?_cons_succ, List.getElem?_cons_zero]; exact rfl) rfl (by kernel_rfl) (by kernel_rfl) (by kernel_rfl) (fun _ _ _ h => h) (by rfl) ?hye1 (by assumption) ?reste1
    case hye1 => (intro w hSw; (try dsimp only at hSw); go_simp; try with_reducible rfl)
    try simp only [Act.put, List.setIfInBounds_toArray, List.set_cons_zero, List.set_cons_succ]
    refine take_yes (i := 2) (some 9) (v := ?ve2) (by simp only [List.getElem?_toArray, List.getElem?_cons_succ, List.getElem?_cons_zero]; exact rfl) rfl (by kernel_rfl) (by kernel_rfl) (by kernel_rfl) (fun _ _ _ h => h) (by rfl) ?hye2 (by assumption) ?reste2
    case hye2 => (intro w hSw; (try dsimp only at hSw); go_simp; try with_reducible rfl)
    try simp only [Act.put, List.setIfInBounds_toArray, List.set_cons_zero, List.set_cons_succ]
    refine wpAnyH_ready (rs := [3]) (by kernel_rfl) (by simp) ?_
    refine AllReadyH.cons rfl (fun K hK => ?_) AllReadyH.nil
    go_simp
    go_wp2_with (go_at_call 65; refine (vint_any n _).mono ?_; rintro e w7 ⟨rfl, hb7⟩; obtain ⟨p0, p1, p2, pf⟩ := (HKB.out.drew.below hb7 HKB.out.lt).three; have HB7 : Hid (Below w.heap.size w w7) := Lib.hid (HB0.out.drew.trans (hb7.mono HB0.out.size)); clear hb7)
    refine hK.out _ _ ?_ (fun hHeld => ?_)
    · go_keep
    clear hK K
    try simp only [Act.put, List.setIfInBounds_toArray, List.set_cons_zero, List.set_cons_succ]
    refine take_yes (i := 4) (some 11) (v := ?ve4) (by simp only [List.getElem?_toArray, List.getElem?_cons_succ, List.getElem?_cons_zero]; exact rfl) rfl (by kernel_rfl) (by kernel_rfl) (by kernel_rfl) (fun _ _ _ h => h) (by rfl) ?hye4 (by assumption) ?reste4
    case hye4 => (intro w hSw; (try dsimp only at hSw); go_simp; try with_reducible rfl)
    try simp only [Act.put, List.setIfInBounds_toArray, List.set_cons_zero, List.set_cons_succ]
    refine take_yes (i := 5) (some 2) (v := ?ve5) (by simp only [List.getElem?_toArray, List.getElem?_cons_succ, List.getElem?_cons_zero]; exact rfl) rfl (by kernel_rfl) (by kernel_rfl) (by kernel_rfl) (fun _ _ _ h => h) (by rfl) ?hye5 (by assumption) ?reste5
    case hye5 => (intro w hSw; (try dsimp only at hSw); go_simp; try with_reducible rfl)
    try simp only [Act.put, List.setIfInBounds_toArray, List.set_cons_zero, List.set_cons_succ]
    refine wpAnyH_done (by kernel_rfl) ?_ _
    refine NoPanic.normal ?_
    go_wp2
    go_ret
    exact ⟨rfl, HB7.out⟩
  · have k0b : (k == 0) = false := by simpa using k0
    by_cases k1 : k = 1
    · subst k1
      by_cases n0 : n = 0
      · subst n0
        have HR : Hid (rightV ⟨1, 0, s⟩ = decide ((s.size : Int) ≤ 200)) := Lib.hid (by simp [rightV]; omega)
        have hE : ∀ w, (binOp .eql 77 (.agg #[.int .i64 1, .int .i64 0, .string s]) (.agg #[.int .i64 1, .int .i64 0, .string s])).run Try.prog w = .ok (.bool true) w := fun w => by rw [eql_val]; simp
        rw [HR.out]
        go_enter Try.func63, Try.ntmps63
        go_wp2_with fail
        obtain ⟨m0, m1, m2, mf⟩ := HKB.out.three
        refine wp_region_noPanic ?_
        refine wp_region_held_drew (S := fun w' => w'.cell? ⟨w.heap.size, 0, none⟩ = some (.int .i64 1) ∧ w'.cell? ⟨w.heap.size, 1, none⟩ = some (.int .i64 0) ∧ w'.cell? ⟨w.heap.size, 2, none⟩ = some (.string s)) (by kernel_rfl) ?_ (fun hHeld => ?_)
        · first | exact ⟨by assumption, by assumption⟩ | go_keep
        refine take_yes (i := 0) (some 14) (v := ?va0) (by simp only [List.getElem?_toArray, List.getElem?_cons_zero]; exact rfl) rfl (by kernel_rfl) (by kernel_rfl) (by kernel_rfl) (fun _ _ _ h => h) (by rfl) ?hya0 (by assumption) ?resta0
        case hya0 => (intro w hSw; (try dsimp only at hSw); go_simp; try with_reducible rfl)
        try simp only [Act.put, List.setIfInBounds_toArray, List.set_cons_zero, List.set_cons_succ]
        refine take_yes (i := 1) (some 15) (v := ?va1) (by simp only [List.getElem?_toArray, List.getElem?_cons_succ, List.getElem?_cons_zero]; exact rfl) rfl (by kernel_rfl) (by kernel_rfl) (by kernel_rfl) (fun _ _ _ h => h) (by rfl) ?hya1 (by assumption) ?resta1
        case hya1 => (intro w hSw; (try dsimp only at hSw); go_simp; try with_reducible rfl)
        try simp only [Act.put, List.setIfInBounds_toArray, List.set_cons_zero, List.set_cons_succ]
        refine take_yes (i := 2) (some 16) (v := ?va2) (by simp only [List.getElem?_toArray, List.getElem?_cons_succ, List.getElem?_cons_zero]; exact rfl) rfl (by kernel_rfl) (by kernel_rfl) (by kernel_rfl) (fun _ _ _ h => h) (by rfl) ?hya2 (by assumption) ?resta2
        case hya2 => (intro w hSw; (try dsimp only at hSw); go_simp; try with_reducible rfl)
        try simp only [Act.put, List.setIfInBounds_toArray, List.set_cons_zero, List.set_cons_succ]
        refine wpAnyH_ready (rs := [3]) (by kernel_rfl) (by simp) ?_
        refine AllReadyH.cons rfl (fun K hK => ?_) AllReadyH.nil
        go_simp
        go_wp2_with (go_at_call 66; refine (vtext_any s _).mono ?_; rintro e w7 ⟨rfl, hb7⟩; obtain ⟨p0, p1, p2, pf⟩ := (HKB.out.drew.below hb7 HKB.out.lt).three; have HB7 : Hid (Below w.heap.size w w7) := Lib.hid (HB0.out.drew.trans (hb7.mono HB0.out.size)); clear hb7)
        refine hK.out _ _ ?_ (fun hHeld => ?_)
        · go_keep
        clear hK K
        try simp only [Act.put, List.setIfInBounds_toArray, List.set_cons_zero, List.set_cons_succ]
        refine take_yes (i := 4) (some 18) (v := ?va4) (by simp only [List.getElem?_toArray, List.getElem?_cons_succ, List.getElem?_cons_zero]; exact rfl) rfl (by kernel_rfl) (by kernel_rfl) (by kernel_rfl) (fun _ _ _ h => h) (by rfl) ?hya4 (by assumption) ?resta4
        case hya4 => (intro w hSw; (try dsimp only at hSw); go_simp; try with_reducible rfl)
        try simp only [Act.put, List.setIfInBounds_toArray, List.set_cons_zero, List.set_cons_succ]
        refine take_yes (i := 5) (some 19) (v := ?va5) (by simp only [List.getElem?_toArray, List.getElem?_cons_succ, List.getElem?_cons_zero]; exact rfl) rfl (by kernel_rfl) (by kernel_rfl) (by kernel_rfl) (fun _ _ _ h => h) (by rfl) ?hya5 (by assumption) ?resta5
        case hya5 => (intro w hSw; (try dsimp only at hSw); go_simp; try with_reducible rfl)
        try simp only [Act.put, List.setIfInBounds_toArray, List.set_cons_zero, List.set_cons_succ]
        refine take_yes (i := 6) (some 20) (v := ?va6) (by simp only [List.getElem?_toArray, List.getElem?_cons_succ, List.getElem?_cons_zero]; exact rfl) rfl (by kernel_rfl) (by kernel_rfl) (by kernel_rfl) (fun _ _ _ h => h) (by rfl) ?hya6 (by assumption) ?resta6
        case hya6 => (intro w hSw; (try dsimp only at hSw); go_simp; try with_reducible rfl)
        try simp only [Act.put, List.setIfInBounds_toArray, List.set_cons_zero, List.set_cons_succ]
        refine take_yes (i := 7) (some 21) (v := ?va7) (by simp only [List.getElem?_toArray, List.getElem?_cons_succ, List.getElem?_cons_zero]; exact rfl) rfl (by kernel_rfl) (by kernel_rfl) (by kernel_rfl) (fun _ _ _ h => h) (by rfl) ?hya7 (by assumption) ?resta7
        case hya7 => (intro w hSw; (try dsimp only at hSw); go_simp; try with_reducible rfl)
        try simp only [Act.put, List.setIfInBounds_toArray, List.set_cons_zero, List.set_cons_succ]
        refine take_yes (i := 8) (some 22) (v := ?va8) (by simp only [List.getElem?_toArray, List.getElem?_cons_succ, List.getElem?_cons_zero]; exact rfl) rfl (by kernel_rfl) (by kernel_rfl) (by kernel_rfl) (fun _ _ _ h => h) (by rfl) ?hya8 (by assumption) ?resta8
        case hya8 => (intro w hSw; (try dsimp only at hSw); go_simp; try with_reducible rfl)
        try simp only [Act.put, List.setIfInBounds_toArray, List.set_cons_zero, List.set_cons_succ]
        refine take_yes (i := 9) (some 23) (v := ?va9) (by simp only [List.getElem?_toArray, List.getElem?_cons_succ, List.getElem?_cons_zero]; exact rfl) rfl (by kernel_rfl) (by kernel_rfl) (by kernel_rfl) (fun _ _ _ h => h) (by rfl) ?hya9 (by assumption) ?resta9
        case hya9 => (intro w hSw; (try dsimp only at hSw); go_simp; try with_reducible rfl)
        try simp only [Act.put, List.setIfInBounds_toArray, List.set_cons_zero, List.set_cons_succ]
        refine take_yes (i := 10) (some 24) (v := ?va10) (by simp only [List.getElem?_toArray, List.getElem?_cons_succ, List.getElem?_cons_zero]; exact rfl) rfl (by kernel_rfl) (by kernel_rfl) (by kernel_rfl) (fun _ _ _ h => h) (by rfl) ?hya10 (by assumption) ?resta10
        case hya10 => (intro w hSw; (try dsimp only at hSw); go_simp; try with_reducible rfl)
        try simp only [Act.put, List.setIfInBounds_toArray, List.set_cons_zero, List.set_cons_succ]
        refine take_yes (i := 11) (some 2) (v := ?va11) (by simp only [List.getElem?_toArray, List.getElem?_cons_succ, List.getElem?_cons_zero]; exact rfl) rfl (by kernel_rfl) (by kernel_rfl) (by kernel_rfl) (fun _ _ _ h => h) (by rfl) ?hya11 (by assumption) ?resta11
        case hya11 => (intro w hSw; (try dsimp only at hSw); go_simp; try with_reducible rfl)
        try simp only [Act.put, List.setIfInBounds_toArray, List.set_cons_zero, List.set_cons_succ]
        refine wpAnyH_done (by kernel_rfl) ?_ _
        refine NoPanic.normal ?_
        go_wp2
        go_ret
        exact ⟨rfl, HB7.out⟩
      · have HR : Hid (rightV ⟨1, n, s⟩ = false) := Lib.hid (by simp [rightV, n0])
        have hE : ∀ w, (binOp .eql 77 (.agg #[.int .i64 1, .int .i64 n, .string s]) (.agg #[.int .i64 1, .int .i64 0, .string s])).run Try.prog w = .ok (.bool false) w := fun w => by rw [eql_val]; simp [n0]
        rw [HR.out]
        go_enter Try.func63, Try.ntmps63
        go_wp2_with fail
        obtain ⟨m0, m1, m2, mf⟩ := HKB.out.three
        refine wp_region_noPanic ?_
        refine wp_region_held_drew (S := fun w' => w'.cell? ⟨w.heap.size, 0, none⟩ = some (.int .i64 1) ∧ w'.cell? ⟨w.heap.size, 1, none⟩ = some (.int .i64 n) ∧ w'.cell? ⟨w.heap.size, 2, none⟩ = some (.string s)) (by kernel_rfl) ?_ (fun hHeld => ?_)
        · first | exact ⟨by assumption, by assumption⟩ | go_keep
        refine take_yes (i := 0) (some 14) (v := ?vb0) (by simp only [List.getElem?_toArray, List.getElem?_cons_zero]; exact rfl) rfl (by kernel_rfl) (by kernel_rfl) (by kernel_rfl) (fun _ _ _ h => h) (by rfl) ?hyb0 (by assumption) ?restb0
        case hyb0 => (intro w hSw; (try dsimp only at hSw); go_simp; try with_reducible rfl)
        try simp only [Act.put, List.setIfInBounds_toArray, List.set_cons_zero, List.set_cons_succ]
        refine take_yes (i := 1) (some 15) (v := ?vb1) (by simp only [List.getElem?_toArray, List.getElem?_cons_succ, List.getElem?_cons_zero]; exact rfl) rfl (by kernel_rfl) (by kernel_rfl) (by kernel_rfl) (fun _ _ _ h => h) (by rfl) ?hyb1 (by assumption) ?restb1
        case hyb1 => (intro w hSw; (try dsimp only at hSw); go_simp; try with_reducible rfl)
        try simp only [Act.put, List.setIfInBounds_toArray, List.set_cons_zero, List.set_cons_succ]
        refine take_yes (i := 2) (some 16) (v := ?vb2) (by simp only [List.getElem?_toArray, List.getElem?_cons_succ, List.getElem?_cons_zero]; exact rfl) rfl (by kernel_rfl) (by kernel_rfl) (by kernel_rfl) (fun _ _ _ h => h) (by rfl) ?hyb2 (by assumption) ?restb2
        case hyb2 => (intro w hSw; (try dsimp only at hSw); go_simp; try with_reducible rfl)
        try simp only [Act.put, List.setIfInBounds_toArray, List.set_cons_zero, List.set_cons_succ]
        refine wpAnyH_ready (rs := [3]) (by kernel_rfl) (by simp) ?_
        refine AllReadyH.cons rfl (fun K hK => ?_) AllReadyH.nil
        go_simp
        go_wp2_with (go_at_call 66; refine (vtext_any s _).mono ?_; rintro e w7 ⟨rfl, hb7⟩; obtain ⟨p0, p1, p2, pf⟩ := (HKB.out.drew.below hb7 HKB.out.lt).three; have HB7 : Hid (Below w.heap.size w w7) := Lib.hid (HB0.out.drew.trans (hb7.mono HB0.out.size)); clear hb7)
        refine hK.out _ _ ?_ (fun hHeld => ?_)
        · go_keep
        clear hK K
        try simp only [Act.put, List.setIfInBounds_toArray, List.set_cons_zero, List.set_cons_succ]
        refine take_yes (i := 4) (some 18) (v := ?vb4) (by simp only [List.getElem?_toArray, List.getElem?_cons_succ, List.getElem?_cons_zero]; exact rfl) rfl (by kernel_rfl) (by kernel_rfl) (by kernel_rfl) (fun _ _ _ h => h) (by rfl) ?hyb4 (by assumption) ?restb4
        case hyb4 => (intro w hSw; (try dsimp only at hSw); go_simp; try with_reducible rfl)
        try simp only [Act.put, List.setIfInBounds_toArray, List.set_cons_zero, List.set_cons_succ]
        refine take_yes (i := 5) (some 19) (v := ?vb5) (by simp only [List.getElem?_toArray, List.getElem?_cons_succ, List.getElem?_cons_zero]; exact rfl) rfl (by kernel_rfl) (by kernel_rfl) (by kernel_rfl) (fun _ _ _ h => h) (by rfl) ?hyb5 (by assumption) ?restb5
        case hyb5 => (intro w hSw; (try dsimp only at hSw); go_simp; try with_reducible rfl)
        try simp only [Act.put, List.setIfInBounds_toArray, List.set_cons_zero, List.set_cons_succ]
        refine take_un (i := 6) (some 20) (by simp only [List.getElem?_toArray, List.getElem?_cons_succ, List.getElem?_cons_zero]; exact rfl) rfl (by kernel_rfl) (by kernel_rfl) (by kernel_rfl) (fun _ _ _ h => h) (by rfl) (by assumption) ?_
        try simp only [Act.put, List.setIfInBounds_toArray, List.set_cons_zero, List.set_cons_succ]
        refine take_un (i := 7) (some 21) (by simp only [List.getElem?_toArray, List.getElem?_cons_succ, List.getElem?_cons_zero]; exact rfl) rfl (by kernel_rfl) (by kernel_rfl) (by kernel_rfl) (fun _ _ _ h => h) (by rfl) (by assumption) ?_
        try simp only [Act.put, List.setIfInBounds_toArray, List.set_cons_zero, List.set_cons_succ]
        refine take_un (i := 8) (some 22) (by simp only [List.getElem?_toArray, List.getElem?_cons_succ, List.getElem?_cons_zero]; exact rfl) rfl (by kernel_rfl) (by kernel_rfl) (by kernel_rfl) (fun _ _ _ h => h) (by rfl) (by assumption) ?_
        try simp only [Act.put, List.setIfInBounds_toArray, List.set_cons_zero, List.set_cons_succ]
        refine take_un (i := 9) (some 23) (by simp only [List.getElem?_toArray, List.getElem?_cons_succ, List.getElem?_cons_zero]; exact rfl) rfl (by kernel_rfl) (by kernel_rfl) (by kernel_rfl) (fun _ _ _ h => h) (by rfl) (by assumption) ?_
        try simp only [Act.put, List.setIfInBounds_toArray, List.set_cons_zero, List.set_cons_succ]
        refine take_yes (i := 10) (some 24) (v := ?vb10) (by simp only [List.getElem?_toArray, List.getElem?_cons_succ, List.getElem?_cons_zero]; exact rfl) rfl (by kernel_rfl) (by kernel_rfl) (by kernel_rfl) (fun _ _ _ h => h) (by rfl) ?hyb10 (by assumption) ?restb10
        case hyb10 => (intro w hSw; (try dsimp only at hSw); go_simp; try with_reducible rfl)
        try simp only [Act.put, List.setIfInBounds_toArray, List.set_cons_zero, List.set_cons_succ]
        refine take_yes (i := 11) (some 2) (v := ?vb11) (by simp only [List.getElem?_toArray, List.getElem?_cons_succ, List.getElem?_cons_zero]; exact rfl) rfl (by kernel_rfl) (by kernel_rfl) (by kernel_rfl) (fun _ _ _ h => h) (by rfl) ?hyb11 (by assumption) ?restb11
        case hyb11 => (intro w hSw; (try dsimp only at hSw); go_simp; try with_reducible rfl)
        try simp only [Act.put, List.setIfInBounds_toArray, List.set_cons_zero, List.set_cons_succ]
        refine wpAnyH_done (by kernel_rfl) ?_ _
        refine NoPanic.normal ?_
        go_wp2
        go_ret
        exact ⟨rfl, HB7.out⟩
    · have k1b : (k == 1) = false := by simpa using k1
      by_cases hf : (k == 2 && (n == 0 && s.toList == [])) = true
      · have HR : Hid (rightV ⟨k, n, s⟩ = true) := Lib.hid (by simp at hf; simp [rightV, hf.1, hf.2.1, hf.2.2])
        have hE : ∀ w, (binOp .eql 77 (.agg #[.int .i64 k, .int .i64 n, .string s]) (.agg #[.int .i64 2, .int .i64 0, .string ⟨#[]⟩])).run Try.prog w = .ok (.bool true) w := fun w => by rw [eql_val, ← hf]; simp
        rw [HR.out]
        clear hf
        go_enter Try.func63, Try.ntmps63
        go_wp2_with fail
        obtain ⟨m0, m1, m2, mf⟩ := HKB.out.three
        refine wp_region_noPanic ?_
        refine wp_region_held_drew (S := fun w' => w'.cell? ⟨w.heap.size, 0, none⟩ = some (.int .i64 k) ∧ w'.cell? ⟨w.heap.size, 1, none⟩ = some (.int .i64 n) ∧ w'.cell? ⟨w.heap.size, 2, none⟩ = some (.string s)) (by kernel_rfl) ?_ (fun hHeld => ?_)
        · first | exact ⟨by assumption, by assumption⟩ | go_keep
        refine take_yes (i := 0) (some 25) (v := ?vc0) (by simp only [List.getElem?_toArray, List.getElem?_cons_zero]; exact rfl) rfl (by kernel_rfl) (by kernel_rfl) (by kernel_rfl) (fun _ _ _ h => h) (by rfl) ?hyc0 (by assumption) ?restc0
        case hyc0 => (intro w hSw; (try dsimp only at hSw); go_simp; try with_reducible rfl)
        try simp only [Act.put, List.setIfInBounds_toArray, List.set_cons_zero, List.set_cons_succ]
        refine wpAnyH_ready (rs := [1]) (by kernel_rfl) (by simp) ?_
        refine AllReadyH.cons rfl (fun K hK => ?_) AllReadyH.nil
        go_simp
        go_wp2_with (go_at_call 67; refine (vbool_any false _).mono ?_; rintro e w7 ⟨rfl, hb7⟩; obtain ⟨p0, p1, p2, pf⟩ := (HKB.out.drew.below hb7 HKB.out.lt).three; have HB7 : Hid (Below w.heap.size w w7) := Lib.hid (HB0.out.drew.trans (hb7.mono HB0.out.size)); clear hb7)
        refine hK.out _ _ ?_ (fun hHeld => ?_)
        · go_keep
        clear hK K
        try simp only [Act.put, List.setIfInBounds_toArray, List.set_cons_zero, List.set_cons_succ]
        refine take_yes (i := 2) (some 27) (v := ?vc2) (by simp only [List.getElem?_toArray, List.getElem?_cons_succ, List.getElem?_cons_zero]; exact rfl) rfl (by kernel_rfl) (by kernel_rfl) (by kernel_rfl) (fun _ _ _ h => h) (by rfl) ?hyc2 (by assumption) ?restc2
        case hyc2 => (intro w hSw; (try dsimp only at hSw); go_simp; try with_reducible rfl)
        try simp only [Act.put, List.setIfInBounds_toArray, List.set_cons_zero, List.set_cons_succ]
        refine take_yes (i := 3) (some 28) (v := ?vc3) (by simp only [List.getElem?_toArray, List.getElem?_cons_succ, List.getElem?_cons_zero]; exact rfl) rfl (by kernel_rfl) (by kernel_rfl) (by kernel_rfl) (fun _ _ _ h => h) (by rfl) ?hyc3 (by assumption) ?restc3
        case hyc3 => (intro w hSw; (try dsimp only at hSw); go_simp; try with_reducible rfl)
        try simp only [Act.put, List.setIfInBounds_toArray, List.set_cons_zero, List.set_cons_succ]
        refine take_un (i := 4) (some 29) (by simp only [List.getElem?_toArray, List.getElem?_cons_succ, List.getElem?_cons_zero]; exact rfl) rfl (by kernel_rfl) (by kernel_rfl) (by kernel_rfl) (fun _ _ _ h => h) (by rfl) (by assumption) ?_
        try simp only [Act.put, List.setIfInBounds_toArray, List.set_cons_zero, List.set_cons_succ]
        refine wpAnyH_ready (rs := [5]) (by kernel_rfl) (by simp) ?_
        refine AllReadyH.cons rfl (fun K hK => ?_) AllReadyH.nil
        go_simp
        go_wp2_with (go_at_call 67; refine (vbool_any false _).mono ?_; rintro e w7 ⟨rfl, hb7⟩; obtain ⟨p0, p1, p2, pf⟩ := (HKB.out.drew.below hb7 HKB.out.lt).three; have HB7 : Hid (Below w.heap.size w w7) := Lib.hid (HB0.out.drew.trans (hb7.mono HB0.out.size)); clear hb7)
        refine hK.out _ _ ?_ (fun hHeld => ?_)
        · go_keep
        clear hK K
        try simp only [Act.put, List.setIfInBounds_toArray, List.set_cons_zero, List.set_cons_succ]
        refine take_un (i := 6) (some 31) (by simp only [List.getElem?_toArray, List.getElem?_cons_succ, List.getElem?_cons_zero]; exact rfl) rfl (by kernel_rfl) (by kernel_rfl) (by kernel_rfl) (fun _ _ _ h => h) (by rfl) (by assumption) ?_
        try simp only [Act.put, List.setIfInBounds_toArray, List.set_cons_zero, List.set_cons_succ]
        refine take_yes (i := 7) (some 32) (v := ?vc7) (by simp only [List.getElem?_toArray, List.getElem?_cons_succ, List.getElem?_cons_zero]; exact rfl) rfl (by kernel_rfl) (by kernel_rfl) (by kernel_rfl) (fun _ _ _ h => h) (by rfl) ?hyc7 (by assumption) ?restc7
        case hyc7 => (intro w hSw; (try dsimp only at hSw); go_simp; try with_reducible rfl)
        try simp only [Act.put, List.setIfInBounds_toArray, List.set_cons_zero, List.set_cons_succ]
        refine take_yes (i := 8) (some 2) (v := ?vc8) (by simp only [List.getElem?_toArray, List.getElem?_cons_succ, List.getElem?_cons_zero]; exact rfl) rfl (by kernel_rfl) (by kernel_rfl) (by kernel_rfl) (fun _ _ _ h => h) (by rfl) ?hyc8 (by assumption) ?restc8
        case hyc8 => (intro w hSw; (try dsimp only at hSw); go_simp; try with_reducible rfl)
        try simp only [Act.put, List.setIfInBounds_toArray, List.set_cons_zero, List.set_cons_succ]
        refine wpAnyH_done (by kernel_rfl) ?_ _
        refine NoPanic.normal ?_
        go_wp2
        go_ret
        exact ⟨rfl, HB7.out⟩
      · have hf' : (k == 2 && (n == 0 && s.toList == [])) = false := by simpa using hf
        have HR : Hid (rightV ⟨k, n, s⟩ = (k == 2 && (n == 1 && s.toList == []))) := Lib.hid (by
          unfold rightV
          simp only [k0, k1, if_false]
          cases h1 : (k == 2) <;> cases h2 : (n == 0) <;> cases h3 : (n == 1) <;> cases h4 : (s.toList == []) <;> simp_all)
        have hE : ∀ w, (binOp .eql 77 (.agg #[.int .i64 k, .int .i64 n, .string s]) (.agg #[.int .i64 2, .int .i64 0, .string ⟨#[]⟩])).run Try.prog w = .ok (.bool false) w := fun w => by rw [eql_val, ← hf']; simp
        obtain ⟨B, hBe⟩ : ∃ B, (k == 2 && (n == 1 && s.toList == [])) = B := ⟨_, rfl⟩
        have hE2 : ∀ w, (binOp .eql 77 (.agg #[.int .i64 k, .int .i64 n, .string s]) (.agg #[.int .i64 2, .int .i64 1, .string ⟨#[]⟩])).run Try.prog w = .ok (.bool B) w := fun w => by rw [eql_val, ← hBe]; simp
        rw [HR.out, hBe]
        clear hf hf' hBe HR
        go_enter Try.func63, Try.ntmps63
        go_wp2_with fail
        obtain ⟨m0, m1, m2, mf⟩ := HKB.out.three
        refine wp_region_noPanic ?_
        refine wp_region_held_drew (S := fun w' => w'.cell? ⟨w.heap.size, 0, none⟩ = some (.int .i64 k) ∧ w'.cell? ⟨w.heap.size, 1, none⟩ = some (.int .i64 n) ∧ w'.cell? ⟨w.heap.size, 2, none⟩ = some (.string s)) (by kernel_rfl) ?_ (fun hHeld => ?_)
        · first | exact ⟨by assumption, by assumption⟩ | go_keep
        refine take_yes (i := 0) (some 25) (v := ?vd0) (by simp only [List.getElem?_toArray, List.getElem?_cons_zero]; exact rfl) rfl (by kernel_rfl) (by kernel_rfl) (by kernel_rfl) (fun _ _ _ h => h) (by rfl) ?hyd0 (by assumption) ?restd0
        case hyd0 => (intro w hSw; (try dsimp only at hSw); go_simp; try with_reducible rfl)
        try simp only [Act.put, List.setIfInBounds_toArray, List.set_cons_zero, List.set_cons_succ]
        refine wpAnyH_ready (rs := [1]) (by kernel_rfl) (by simp) ?_
        refine AllReadyH.cons rfl (fun K hK => ?_) AllReadyH.nil
        go_simp
        go_wp2_with (first | (have hfirst := HB0; go_at_call 67; refine (vbool_any false _).mono ?_; rintro e w7 ⟨rfl, hb7⟩; obtain ⟨p0, p1, p2, pf⟩ := (HKB.out.drew.below hb7 HKB.out.lt).three; have HP7 : Hid (Blk w7 w.heap.size 77 #[.int .i64 k, .int .i64 n, .string s]) := Lib.hid (HKB.out.drew.below hb7 HKB.out.lt); have HB7 : Hid (Below w.heap.size w w7) := Lib.hid (HB0.out.drew.trans (hb7.mono HB0.out.size)); clear hb7 hfirst HB0) | (go_at_call 67; refine (vbool_any true _).mono ?_; rintro e w8 ⟨rfl, hb8⟩; obtain ⟨q0, q1, q2, qf⟩ := (HP7.out.below hb8 HP7.out.lt).three; have HB8 : Hid (Below w.heap.size w w8) := Lib.hid (HB7.out.trans (hb8.mono HB7.out.size)); clear hb8))
        refine hK.out _ _ ?_ (fun hHeld => ?_)
        · go_keep
        clear hK K
        try simp only [Act.put, List.setIfInBounds_toArray, List.set_cons_zero, List.set_cons_succ]
        refine take_yes (i := 2) (some 27) (v := ?vd2) (by simp only [List.getElem?_toArray, List.getElem?_cons_succ, List.getElem?_cons_zero]; exact rfl) rfl (by kernel_rfl) (by kernel_rfl) (by kernel_rfl) (fun _ _ _ h => h) (by rfl) ?hyd2 (by assumption) ?restd2
        case hyd2 => (intro w hSw; (try dsimp only at hSw); go_simp; try with_reducible rfl)
        try simp only [Act.put, List.setIfInBounds_toArray, List.set_cons_zero, List.set_cons_succ]
        refine take_yes (i := 3) (some 28) (v := ?vd3) (by simp only [List.getElem?_toArray, List.getElem?_cons_succ, List.getElem?_cons_zero]; exact rfl) rfl (by kernel_rfl) (by kernel_rfl) (by kernel_rfl) (fun _ _ _ h => h) (by rfl) ?hyd3 (by assumption) ?restd3
        case hyd3 => (intro w hSw; (try dsimp only at hSw); go_simp; try with_reducible rfl)
        try simp only [Act.put, List.setIfInBounds_toArray, List.set_cons_zero, List.set_cons_succ]
        refine take_yes (i := 4) (some 29) (v := ?vd4) (by simp only [List.getElem?_toArray, List.getElem?_cons_succ, List.getElem?_cons_zero]; exact rfl) rfl (by kernel_rfl) (by kernel_rfl) (by kernel_rfl) (fun _ _ _ h => h) (by rfl) ?hyd4 (by assumption) ?restd4
        case hyd4 => (intro w hSw; (try dsimp only at hSw); go_simp; try with_reducible rfl)
        try simp only [Act.put, List.setIfInBounds_toArray, List.set_cons_zero, List.set_cons_succ]
        refine wpAnyH_ready (rs := [5]) (by kernel_rfl) (by simp) ?_
        refine AllReadyH.cons rfl (fun K hK => ?_) AllReadyH.nil
        go_simp
        go_wp2_with (first | (have hfirst := HB0; go_at_call 67; refine (vbool_any false _).mono ?_; rintro e w7 ⟨rfl, hb7⟩; obtain ⟨p0, p1, p2, pf⟩ := (HKB.out.drew.below hb7 HKB.out.lt).three; have HP7 : Hid (Blk w7 w.heap.size 77 #[.int .i64 k, .int .i64 n, .string s]) := Lib.hid (HKB.out.drew.below hb7 HKB.out.lt); have HB7 : Hid (Below w.heap.size w w7) := Lib.hid (HB0.out.drew.trans (hb7.mono HB0.out.size)); clear hb7 hfirst HB0) | (go_at_call 67; refine (vbool_any true _).mono ?_; rintro e w8 ⟨rfl, hb8⟩; obtain ⟨q0, q1, q2, qf⟩ := (HP7.out.below hb8 HP7.out.lt).three; have HB8 : Hid (Below w.heap.size w w8) := Lib.hid (HB7.out.trans (hb8.mono HB7.out.size)); clear hb8))
        refine hK.out _ _ ?_ (fun hHeld => ?_)
        · go_keep
        clear hK K
        try simp only [Act.put, List.setIfInBounds_toArray, List.set_cons_zero, List.set_cons_succ]
        refine take_yes (i := 6) (some 31) (v := ?vd6) (by simp only [List.getElem?_toArray, List.getElem?_cons_succ, List.getElem?_cons_zero]; exact rfl) rfl (by kernel_rfl) (by kernel_rfl) (by kernel_rfl) (fun _ _ _ h => h) (by rfl) ?hyd6 (by assumption) ?restd6
        case hyd6 => (intro w hSw; (try dsimp only at hSw); go_simp; try with_reducible rfl)
        try simp only [Act.put, List.setIfInBounds_toArray, List.set_cons_zero, List.set_cons_succ]
        refine take_yes (i := 7) (some 32) (v := ?vd7) (by simp only [List.getElem?_toArray, List.getElem?_cons_succ, List.getElem?_cons_zero]; exact rfl) rfl (by kernel_rfl) (by kernel_rfl) (by kernel_rfl) (fun _ _ _ h => h) (by rfl) ?hyd7 (by assumption) ?restd7
        case hyd7 => (intro w hSw; (try dsimp only at hSw); go_simp; try with_reducible rfl)
        try simp only [Act.put, List.setIfInBounds_toArray, List.set_cons_zero, List.set_cons_succ]
        refine take_yes (i := 8) (some 2) (v := ?vd8) (by simp only [List.getElem?_toArray, List.getElem?_cons_succ, List.getElem?_cons_zero]; exact rfl) rfl (by kernel_rfl) (by kernel_rfl) (by kernel_rfl) (fun _ _ _ h => h) (by rfl) ?hyd8 (by assumption) ?restd8
        case hyd8 => (intro w hSw; (try dsimp only at hSw); go_simp; try with_reducible rfl)
        try simp only [Act.put, List.setIfInBounds_toArray, List.set_cons_zero, List.set_cons_succ]
        refine wpAnyH_done (by kernel_rfl) ?_ _
        refine NoPanic.normal ?_
        go_wp2
        go_ret
        exact ⟨rfl, HB8.out⟩

theorem vall1_any (v : VVal) (w : World) :
    Calls Try.prog 62 #[.agg #[.int .i64 v.kind, .int .i64 v.n, .string v.s]] w fun e w' => e = .returned (.bool (!rightV v)) ∧ Below w.heap.size w w' := by
  obtain ⟨k, n, s⟩ := v
  go_enter Try.func62, Try.ntmps62
  go_wp2_with fail
  refine (vright_any ⟨k, n, s⟩ _).mono ?_
  rintro e w1 ⟨rfl, hb1⟩
  go_wp2
  go_ret
  exact ⟨rfl, ((Below.refl _ w).alloc (Nat.le_refl _) _).trans (hb1.mono (by simp))⟩
/-- The first place of a value that is not right. -/
def idxV (s : List VVal) : Int := match s.findIdx? (fun v => !rightV v) with | some i => (i : Int) | none => -1
theorem idxV_hit (l : List VVal) (k : Nat) (x : VVal) (hx : l[k]? = some x) (h : (!rightV x) = true) (hb : ∀ (j : Nat) (y : VVal), j < k → l[j]? = some y → (!rightV y) = false) : idxV l = k := by
  have : l.findIdx? (fun v => !rightV v) = some k := by
    rw [List.findIdx?_eq_some_iff_getElem]
    obtain ⟨hk, rfl⟩ := List.getElem?_eq_some_iff.1 hx
    exact ⟨hk, h, fun j hj => by simp [hb j l[j] hj (List.getElem?_eq_getElem _)]⟩
  simp [idxV, this]
theorem idxV_miss (l : List VVal) (hb : ∀ (j : Nat) (y : VVal), l[j]? = some y → (!rightV y) = false) : idxV l = -1 := by
  have : l.findIdx? (fun v => !rightV v) = none := by
    rw [List.findIdx?_eq_none_iff]
    intro x hx
    obtain ⟨j, hj, rfl⟩ := List.mem_iff_getElem.1 hx
    exact hb j _ (List.getElem?_eq_getElem hj)
  simp [idxV, this]
theorem idxV_all (l : List VVal) : (!decide ((0 : Int) ≤ idxV l)) = l.all rightV := by
  unfold idxV
  cases h : l.findIdx? (fun v => !rightV v) with
  | none =>
    have h1 := List.findIdx?_eq_none_iff.1 h
    simp only
    symm
    simp only [List.all_eq_true, Int.reduceNeg, Int.reduceLE, decide_false, Bool.not_false]
    simpa using h1
  | some i =>
    obtain ⟨hi, hp, _⟩ := List.findIdx?_eq_some_iff_getElem.1 h
    have h1 : l.all rightV = false := by
      rw [List.all_eq_false]
      exact ⟨l[i], List.getElem_mem hi, by simpa using hp⟩
    rw [h1]
    simp
set_option maxHeartbeats 1000000 in
theorem indexV_any (A : Option Addr) (n c : Nat) (l : List VVal) (w : World) (hr : SlT 3 encV w A n c l) (hn : n ≤ 1000000) :
    Calls Try.prog 64 #[.slice A n c, .func (.func 62) #[] #[]] w fun e w' => e = .returned (.int .i64 (idxV l)) ∧ Below w.heap.size w w' := by
  have hl := hr.1
  rcases Nat.eq_zero_or_pos n with h0 | h0
  · subst h0
    obtain rfl : l = [] := List.eq_nil_of_length_eq_zero hl
    clear hr hl
    go_enter Try.func64, Try.ntmps64
    go_wp2
    refine wp_loop_rounds 1 ?_
    rw [rounds_succ]
    go_wp2
    go_ret
    exact ⟨rfl, Below.refl _ _⟩
  · obtain ⟨b, off, rfl, hb, hx⟩ := hr.2.2 h0
    have HX := Lib.hid hx
    have HL := Lib.hid hl
    have eg : ∀ args w, (callFunc 62 args).run Try.prog w = .ok (.enter 62 args) w := fun _ _ => by kernel_rfl
    clear hr hl hx
    go_enter Try.func64, Try.ntmps64
    go_wp2
    go_loopg [5, 8] n (fun gg _ s8 wr => ∃ kk : Nat, kk ≤ n ∧ n - kk ≤ gg ∧ s8 = .int .i64 kk ∧ Hid (Below w.heap.size w wr) ∧ Hid (∀ (j : Nat) (y : VVal), j < kk → l[j]? = some y → (!rightV y) = false))
    case atStart => exact ⟨0, Nat.zero_le _, by omega, rfl, Below.refl _ w, fun j y hj => absurd hj (Nat.not_lt_zero _)⟩
    case round =>
      obtain ⟨kk, hkk, hg, rfl, BW, A⟩ := hrel
      by_cases hlt : kk < n
      · have hltz : (kk : Int) < (n : Int) := by omega
        obtain ⟨x, hj⟩ : ∃ x, l[kk]? = some x := ⟨_, List.getElem?_eq_getElem (by rw [HL.out]; exact hlt)⟩
        obtain ⟨c0, c1, c2⟩ := cellsV HX.out hb BW.out hj
        have HJ := Lib.hid hj
        have HC : Hid (Calls Try.prog 62 #[.agg #[.int .i64 x.kind, .int .i64 x.n, .string x.s]] wr fun e w' => e = .returned (.bool (!rightV x)) ∧ Below wr.heap.size wr w') := vall1_any x wr
        clear hj
        cases hp : (!rightV x) with
        | true =>
          rw [hp] at HC
          have HP := Lib.hid hp
          clear hp
          go_wp2_with fail
          refine HC.out.mono ?_
          rintro e w' ⟨rfl, hb'⟩
          go_wp2
          go_ret
          refine ⟨?_, BW.out.trans (hb'.mono BW.out.size)⟩
          rw [idxV_hit l kk x HJ.out HP.out A.out]
          rfl
        | false =>
          rw [hp] at HC
          have HP := Lib.hid hp
          clear hp
          go_wp2_with fail
          refine HC.out.mono ?_
          rintro e w' ⟨rfl, hb'⟩
          go_wp2
          go_roundg (n - (kk + 1))
          case measure => omega
          case rel =>
            refine ⟨kk + 1, by omega, by omega, by go_num, BW.out.trans (hb'.mono BW.out.size), (show Hid _ from fun j y hj hy => ?_)⟩
            by_cases e : j = kk
            · subst e
              have := HJ.out.symm.trans hy
              injection this with this
              rw [← this]
              exact HP.out
            · exact A.out j y (by omega) hy
      · have hltz : ¬ (kk : Int) < (n : Int) := by omega
        have : kk = n := by omega
        subst this
        go_wp2
        go_ret
        refine ⟨?_, BW.out⟩
        rw [idxV_miss l (fun j y hy => A.out j y (by have := (List.getElem?_eq_some_iff.1 hy).1; have := HL.out; omega) hy)]
        rfl
theorem containsV_any (A : Option Addr) (n c : Nat) (l : List VVal) (w : World) (hr : SlT 3 encV w A n c l) (hn : n ≤ 1000000) :
    Calls Try.prog 61 #[.slice A n c, .func (.func 62) #[] #[]] w fun e w' => e = .returned (.bool (decide ((0 : Int) ≤ idxV l))) ∧ Below w.heap.size w w' := by
  have HR := Lib.hid hr
  clear hr
  go_enter Try.func61, Try.ntmps61
  go_wp2_with fail
  refine (indexV_any A n c l _ HR.out hn).mono ?_
  rintro e w1 ⟨rfl, hb1⟩
  go_wp2
  go_ret
  exact ⟨rfl, hb1⟩
theorem vall_any (A : Option Addr) (n c : Nat) (l : List VVal) (w : World) (hr : SlT 3 encV w A n c l) (hn : n ≤ 1000000) :
    Calls Try.prog 60 #[.slice A n c] w fun e w' => e = .returned (.bool (l.all rightV)) ∧ Below w.heap.size w w' := by
  have HR := Lib.hid hr
  have HA := Lib.hid (idxV_all l)
  clear hr
  go_enter Try.func60, Try.ntmps60
  go_wp2_with fail
  refine (containsV_any A n c l _ HR.out hn).mono ?_
  rintro e w1 ⟨rfl, hb1⟩
  go_wp2
  go_ret
  exact ⟨ret_bool HA.out, hb1⟩
theorem rightRow_any (A : Option Addr) (n c : Nat) (l : List VVal) (w : World) (hr : SlT 3 encV w A n c l) (hn : n ≤ 1000000) :
    Calls Try.prog 58 #[.slice A n c] w fun e w' => e = .returned (.bool (rightRow l)) ∧ Below w.heap.size w w' := by
  have HR := Lib.hid hr
  have HL := Lib.hid hr.1
  clear hr
  by_cases h : n ≤ 12
  · have hz : (n : Int) ≤ 12 := by omega
    go_enter Try.func58, Try.ntmps58
    go_wp2_with fail
    refine (vall_any A n c l _ HR.out hn).mono ?_
    rintro e w1 ⟨rfl, hb1⟩
    go_wp2
    go_ret
    exact ⟨ret_bool (by unfold rightRow; rw [HL.out]; simp [h]), hb1⟩
  · have hz : ¬ (n : Int) ≤ 12 := by omega
    go_enter Try.func58, Try.ntmps58
    go_wp2
    go_ret
    exact ⟨ret_bool (by unfold rightRow; rw [HL.out]; simp [h]), Below.refl _ _⟩
end Go.Proofs.Ytghciaaedjomjaa
