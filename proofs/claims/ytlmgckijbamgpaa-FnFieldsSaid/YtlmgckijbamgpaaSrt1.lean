/- The parts of the stable sort over a row of fields: the comparison and the sort by insertion. -/
import Derived.Test.YtlmgckijbamgpaaSrtL
namespace Go.Proofs.Ytlmgckijbamgpaa
set_option linter.unusedVariables false
set_option linter.unusedSimpArgs false
open Go.ChangeShapes Go.WideShapes Go.ChangeAt Go.RowKit
set_option maxRecDepth 100000

def cmpI (x y : Int) : Int := if x < y then -1 else if x > y then 1 else 0
set_option maxHeartbeats 400000 in
theorem isNaN_int (x : Int) (w : World) : Calls Try.prog 128 #[.int .i64 x] w fun e w' => e = .returned (.bool false) ∧ w = w' := by
  have hx : (x != x) = false := by simp
  go_enter Try.func128, Try.ntmps128
  go_wp2_with fail
  go_ret
  exact ⟨rfl, rfl⟩
set_option maxHeartbeats 1000000 in
theorem compare_int (x y : Int) (w : World) : Calls Try.prog 87 #[.int .i64 x, .int .i64 y] w fun e w' => e = .returned (.int .i64 (cmpI x y)) ∧ w = w' := by
  have H := Lib.hid (fun z wx => isNaN_int z wx)
  unfold cmpI
  by_cases h1 : x < y
  · rw [if_pos h1]
    go_enter Try.func87, Try.ntmps87
    go_wp2_with fail
    refine (H.out _ _).mono ?_
    rintro e w' ⟨rfl, rfl⟩
    go_wp2_with fail
    refine (H.out _ _).mono ?_
    rintro e w' ⟨rfl, rfl⟩
    go_wp2_with fail
    go_ret
    exact ⟨rfl, rfl⟩
  · rw [if_neg h1]
    by_cases h2 : x > y
    · rw [if_pos h2]
      have h3 : y < x := h2
      go_enter Try.func87, Try.ntmps87
      go_wp2_with fail
      refine (H.out _ _).mono ?_
      rintro e w' ⟨rfl, rfl⟩
      go_wp2_with fail
      refine (H.out _ _).mono ?_
      rintro e w' ⟨rfl, rfl⟩
      go_wp2_with fail
      go_ret
      exact ⟨rfl, rfl⟩
    · rw [if_neg h2]
      have h3 : ¬ y < x := h2
      go_enter Try.func87, Try.ntmps87
      go_wp2_with fail
      refine (H.out _ _).mono ?_
      rintro e w' ⟨rfl, rfl⟩
      go_wp2_with fail
      refine (H.out _ _).mono ?_
      rintro e w' ⟨rfl, rfl⟩
      go_wp2_with fail
      go_ret
      exact ⟨rfl, rfl⟩

set_option maxHeartbeats 1000000 in
theorem clo_srt (x y : Fld) (w : World) : Calls Try.prog 86 #[.agg #[.int .i64 x.no, .int .i64 x.kind, .int .i64 x.num, .string x.data], .agg #[.int .i64 y.no, .int .i64 y.kind, .int .i64 y.num, .string y.data]] w fun e w' => e = .returned (.int .i64 (cmpI x.no y.no)) ∧ Below w.heap.size w w' := by
  have H := Lib.hid (fun wx => compare_int x.no y.no wx)
  obtain ⟨xn, xk, xm, xd⟩ := x
  obtain ⟨yn, yk, ym, yd⟩ := y
  simp only at H
  have HB := Lib.hid (((Below.refl w.heap.size w).alloc (Nat.le_refl _) (.cells #[.int .i64 xn, .int .i64 xk, .int .i64 xm, .string xd] 57)).alloc (by simp) (.cells #[.int .i64 yn, .int .i64 yk, .int .i64 ym, .string yd] 57))
  generalize cmpI xn yn = c at *
  go_enter Try.func86, Try.ntmps86
  go_wp2_with fail
  refine (H.out _).mono ?_
  rintro e w' ⟨rfl, rfl⟩
  go_wp2_with fail
  go_ret
  exact ⟨rfl, HB.out⟩
/-- the row as it stands -/
structure RowS (w0 : World) (g n cap : Nat) (L : List Fld) (w : World) : Prop where
  own : w.ownsRow w0.heap.size 57 4 (.slice (some ⟨g, 0, none⟩) n cap) n (fdsV L)
  bel : Below w0.heap.size w0 w
theorem RowS.len {w0 : World} {g n cap : Nat} {L : List Fld} {w : World} (h : RowS w0 g n cap L w) : L.length = n := by
  have := h.own.1; rw [fdsV_len] at this; omega
theorem RowS.step {w0 : World} {g n cap : Nat} {L : List Fld} {w w' : World} (h : RowS w0 g n cap L w) (hb : Below w.heap.size w w') : RowS w0 g n cap L w' :=
  ⟨own_later h.own hb, h.bel.trans (hb.mono h.bel.size)⟩
theorem RowS.drew {w0 : World} {g n cap : Nat} {L : List Fld} {w : World} (h : RowS w0 g n cap L w) : RowS w0 g n cap L w.drew := h.step (Below.refl _ _).drew
theorem RowS.at {w0 : World} {g n cap : Nat} {L : List Fld} {w : World} (h : RowS w0 g n cap L w) {k : Nat} {f : Fld} (hf : L[k]? = some f) : w.cell? ⟨g, k * 4, none⟩ = some (.int .i64 f.no) ∧ w.cell? ⟨g, k * 4 + 1, none⟩ = some (.int .i64 f.kind) ∧ w.cell? ⟨g, k * 4 + 2, none⟩ = some (.int .i64 f.num) ∧ w.cell? ⟨g, k * 4 + 3, none⟩ = some (.string f.data) := by
  have hk : k < n := by have := (List.getElem?_eq_some_iff.1 hf).1; have := h.len; omega
  obtain ⟨e0, e1, e2, e3⟩ := fdsV_at L k f hf
  refine ⟨?_, ?_, ?_, ?_⟩
  · rw [h.own.cellAt _ (by omega)]; exact e0
  · rw [h.own.cellAt _ (by omega)]; exact e1
  · rw [h.own.cellAt _ (by omega)]; exact e2
  · rw [h.own.cellAt _ (by omega)]; exact e3
theorem RowS.put {w0 : World} {g n cap : Nat} {L : List Fld} {w : World} (h : RowS w0 g n cap L w) {k : Nat} (hk : k < n) (f : Fld) :
    ∃ (wA wB wC wD : World) (x0 x1 x2 x3 : Value), w.setCell ⟨g, k * 4, none⟩ (.int .i64 f.no) = wA ∧ wA.setCell ⟨g, k * 4 + 1, none⟩ (.int .i64 f.kind) = wB ∧ wB.setCell ⟨g, k * 4 + 2, none⟩ (.int .i64 f.num) = wC ∧ wC.setCell ⟨g, k * 4 + 3, none⟩ (.string f.data) = wD ∧
      ((w.cell? ⟨g, k * 4, none⟩ = some x0 ∧ w.frozen? ⟨g, k * 4, none⟩ = false) ∧ (wA.cell? ⟨g, k * 4 + 1, none⟩ = some x1 ∧ wA.frozen? ⟨g, k * 4 + 1, none⟩ = false) ∧ (wB.cell? ⟨g, k * 4 + 2, none⟩ = some x2 ∧ wB.frozen? ⟨g, k * 4 + 2, none⟩ = false) ∧ (wC.cell? ⟨g, k * 4 + 3, none⟩ = some x3 ∧ wC.frozen? ⟨g, k * 4 + 3, none⟩ = false)) ∧ RowS w0 g n cap (L.set k f) wD := by
  obtain ⟨wA, wB, wC, wD, x0, x1, x2, x3, h1, h2, h3, h4, h5, h6, h7⟩ := st4row h.own h.len hk f
  exact ⟨wA, wB, wC, wD, x0, x1, x2, x3, h1, h2, h3, h4, h5, h6, h.bel.trans (Wrote.below (B := w0.heap.size) h7 h.bel.size (fun b hb => by have := (h.own.lt g rfl).1; omega))⟩
theorem RowS.list {w0 : World} {g n cap : Nat} {L M : List Fld} {w : World} (h : RowS w0 g n cap L w) (e : L = M) : RowS w0 g n cap M w := e ▸ h
def SortP (w0 : World) (g n cap : Nat) (L : List Fld) (a b : Nat) (e : Ending) (w' : World) : Prop :=
  e = .returned (.tuple #[]) ∧ ∃ L', RowS w0 g n cap L' w' ∧ St L L' a b ∧ So L' a b
theorem getD_of {L : List Fld} {i : Nat} (h : i < L.length) : ∃ f, L[i]? = some f := ⟨_, List.getElem?_eq_getElem h⟩
/-- the row but for the one that is on its way down -/
def Ins (L : List Fld) (a i j : Nat) : Prop := (∀ x y, a ≤ x → x < y → y ≤ i → x ≠ j → y ≠ j → kf L x ≤ kf L y) ∧ (∀ y, j < y → y ≤ i → kf L j ≤ kf L y)
theorem ins_start {L : List Fld} {a i : Nat} (h : So L a i) : Ins L a i i := ⟨fun x y h1 h2 h3 h4 h5 => h x y h1 h2 (by omega), fun y h1 h2 => by omega⟩
theorem ins_stop {L : List Fld} {a i j : Nat} (h : Ins L a i j) (hj : a ≤ j) (hs : j = a ∨ kf L (j - 1) ≤ kf L j) : So L a (i + 1) := by
  intro x y h1 h2 h3
  by_cases hx : x = j
  · subst hx; exact h.2 y h2 (by omega)
  · by_cases hy : y = j
    · subst hy
      rcases hs with hs | hs
      · omega
      · by_cases hx1 : x = y - 1
        · subst hx1; exact hs
        · have := h.1 x (y - 1) h1 (by omega) (by omega) hx (by omega)
          omega
    · exact h.1 x y h1 h2 (by omega) hx hy
theorem kf_set {L : List Fld} {i k : Nat} {f : Fld} (hk : k < L.length) : kf (L.set k f) i = if i = k then f.no else kf L i := by
  unfold kf
  rw [List.getD, List.getD, List.getElem?_set]
  by_cases h : k = i
  · subst h; simp [hk]
  · simp [h, show ¬ i = k from fun e => h e.symm]
theorem ins_swap {L : List Fld} {a i j1 : Nat} {x y : Fld} (h : Ins L a i (j1 + 1)) (hj : a ≤ j1) (hi : j1 + 1 ≤ i) (hx : L[j1 + 1]? = some x) (hy : L[j1]? = some y) (hlt : x.no < y.no) : Ins ((L.set j1 x).set (j1 + 1) y) a i j1 := by
  have l1 := (List.getElem?_eq_some_iff.1 hx).1
  have k1 := kf_of hx
  have k2 := kf_of hy
  have e : ∀ t, kf ((L.set j1 x).set (j1 + 1) y) t = if t = j1 + 1 then y.no else if t = j1 then x.no else kf L t := fun t => by
    rw [kf_set (by simp; omega), kf_set (by omega)]
  refine ⟨fun u v h1 h2 h3 h4 h5 => ?_, fun v h1 h2 => ?_⟩
  · rw [e, e]
    by_cases hu : u = j1 + 1
    · subst hu
      rw [if_pos rfl, if_neg (by omega), if_neg (by omega)]
      rw [← k2]; exact h.1 j1 v hj (by omega) h3 (by omega) (by omega)
    · rw [if_neg hu, if_neg h4]
      by_cases hv : v = j1 + 1
      · rw [if_pos hv, ← k2]
        exact h.1 u j1 h1 (by omega) (by omega) hu (by omega)
      · rw [if_neg hv, if_neg h5]
        exact h.1 u v h1 h2 h3 hu hv
  · rw [e, e, if_neg (by omega), if_pos rfl]
    by_cases hv : v = j1 + 1
    · rw [if_pos hv]; omega
    · rw [if_neg hv, if_neg (by omega), ← k1]
      exact h.2 v (by omega) h2
set_option maxHeartbeats 2000000 in
theorem sort_ins (w0 : World) (g n cap : Nat) (L : List Fld) (a b : Nat) (w : World) (hnc : n ≤ cap) (hcm : cap ≤ 9223372036854775807) (hn : n ≤ 1000000) (hab : a ≤ b) (hbn : b ≤ n) (hR : RowS w0 g n cap L w) :
    Calls Try.prog 141 #[.slice (some ⟨g, 0, none⟩) n cap, .int .i64 (a : Int), .int .i64 (b : Int), .func (.func 86) #[] #[]] w (SortP w0 g n cap L a b) := by
  have HR0 := Lib.hid hR
  clear hR
  unfold SortP
  go_enter Try.func141, Try.ntmps141
  go_wp2_with fail
  go_loopw [8] (fun iv wr => ∃ (i : Nat) (M : List Fld), a + 1 ≤ i ∧ (i ≤ b ∨ i = a + 1) ∧ iv = .int .i64 (i : Int) ∧ Hid (RowS w0 g n cap M wr) ∧ Hid (St L M a b) ∧ Hid (So M a i)) (fun iv _ => b + 1 - (intOf iv).toNat)
  case atStart => exact ⟨a + 1, L, Nat.le_refl _, .inr rfl, by go_num, HR0, Lib.hid (St.refl _ _ _), Lib.hid (fun x y h1 h2 h3 => by omega)⟩
  case round =>
    clear HR0
    obtain ⟨w1, rfl⟩ : ∃ z : World, z = wr := ⟨_, rfl⟩
    obtain ⟨i, M, hi1, hi2, rfl, HR, HST, HSO⟩ := hrel
    by_cases hib : i < b
    case neg =>
      go_wp2_with fail
      first | (refine bodyPost_ret (results_none rfl _ _ _) rfl ?_) | (refine bodyPost_end (results_none rfl _ _ _) rfl ?_)
      exact ⟨rfl, M, HR.out, HST.out, fun x y h1 h2 h3 => HSO.out x y h1 h2 (by omega)⟩
    go_wp2_with fail
    go_loopw [9] (fun jv wr => ∃ (j : Nat) (N : List Fld), a ≤ j ∧ j ≤ i ∧ jv = .int .i64 (j : Int) ∧ Hid (RowS w0 g n cap N wr) ∧ Hid (St L N a b) ∧ Hid (Ins N a i j)) (fun jv _ => (intOf jv).toNat)
    case atStart => exact ⟨i, M, by omega, Nat.le_refl _, rfl, HR, HST, Lib.hid (ins_start HSO.out)⟩
    case round =>
      clear HR HST HSO
      obtain ⟨w2, rfl⟩ : ∃ z : World, z = wr := ⟨_, rfl⟩
      obtain ⟨j, N, hj1, hj2, rfl, HR, HST, HIN⟩ := hrel
      by_cases haj : a < j
      case neg =>
        obtain rfl : j = a := by omega
        have hna : ¬ (j : Int) > (j : Int) := by omega
        go_wp2_with fail
        refine wp_region_G [] (fun w' => True) (by kernel_rfl) ?_ (fun hHeld => ?_)
        · trivial
        refine wpG_pure (i := 0) (oi := { dst := some 18, op := Go.Op.move (Go.Operand.tmp 9), type := 3, pos := "zsortanyfunc.go:12", after := #[], guard := none }) (v := ?vg1) rfl (by kernel_rfl) (fun _ _ _ h => h) (Or.inr hHeld) (Or.inl ⟨by rfl, ?yg1⟩) ?_
        case yg1 => (intro wS _; go_simp <;> with_reducible rfl)
        try simp only [Act.put, List.setIfInBounds_toArray, List.set_cons_zero, List.set_cons_succ]
        refine wpG_pure (i := 1) (oi := { dst := some 19, op := Go.Op.move (Go.Operand.tmp 1), type := 3, pos := "zsortanyfunc.go:12", after := #[], guard := none }) (v := ?vg2) rfl (by kernel_rfl) (fun _ _ _ h => h) (Or.inr hHeld) (Or.inl ⟨by rfl, ?yg2⟩) ?_
        case yg2 => (intro wS _; go_simp <;> with_reducible rfl)
        try simp only [Act.put, List.setIfInBounds_toArray, List.set_cons_zero, List.set_cons_succ]
        refine wpG_pure (i := 2) (oi := { dst := some 20, op := Go.Op.binOp Go.BinOp.gtr 3 (Go.Operand.tmp 18) (Go.Operand.tmp 19) 3, type := 4, pos := "zsortanyfunc.go:12", after := #[{ on := 0, ground := Go.Ground.data }, { on := 1, ground := Go.Ground.data }], guard := none }) (v := ?vg3) rfl (by kernel_rfl) (fun _ _ _ h => h) (Or.inr hHeld) (Or.inl ⟨by rfl, ?yg3⟩) ?_
        case yg3 => (intro wS _; go_simp <;> with_reducible rfl)
        try simp only [Act.put, List.setIfInBounds_toArray, List.set_cons_zero, List.set_cons_succ]
        refine wpG_pure (i := 3) (oi := { dst := some 21, op := Go.Op.move (Go.Operand.tmp 20), type := 4, pos := "zsortanyfunc.go:12", after := #[{ on := 2, ground := Go.Ground.data }], guard := none }) (v := ?vg4) rfl (by kernel_rfl) (fun _ _ _ h => h) (Or.inr hHeld) (Or.inl ⟨by rfl, ?yg4⟩) ?_
        case yg4 => (intro wS _; go_simp <;> with_reducible rfl)
        try simp only [Act.put, List.setIfInBounds_toArray, List.set_cons_zero, List.set_cons_succ]
        refine wpG_pure (i := 4) (oi := { dst := some 22, op := Go.Op.move (Go.Operand.tmp 3), type := 114, pos := "zsortanyfunc.go:12", after := #[{ on := 3, ground := Go.Ground.guard }], guard := some (3, true) }) (v := undef) rfl (by kernel_rfl) (fun _ _ _ h => h) (Or.inr hHeld) (Or.inr ⟨by rfl, rfl⟩) ?_
        try simp only [Act.put, List.setIfInBounds_toArray, List.set_cons_zero, List.set_cons_succ]
        refine wpG_pure (i := 5) (oi := { dst := some 23, op := Go.Op.move (Go.Operand.tmp 0), type := 49, pos := "zsortanyfunc.go:12", after := #[{ on := 3, ground := Go.Ground.guard }], guard := some (3, true) }) (v := undef) rfl (by kernel_rfl) (fun _ _ _ h => h) (Or.inr hHeld) (Or.inr ⟨by rfl, rfl⟩) ?_
        try simp only [Act.put, List.setIfInBounds_toArray, List.set_cons_zero, List.set_cons_succ]
        refine wpG_pure (i := 6) (oi := { dst := some 24, op := Go.Op.move (Go.Operand.tmp 9), type := 3, pos := "zsortanyfunc.go:12", after := #[{ on := 3, ground := Go.Ground.guard }], guard := some (3, true) }) (v := undef) rfl (by kernel_rfl) (fun _ _ _ h => h) (Or.inr hHeld) (Or.inr ⟨by rfl, rfl⟩) ?_
        try simp only [Act.put, List.setIfInBounds_toArray, List.set_cons_zero, List.set_cons_succ]
        refine wpG_pure (i := 7) (oi := { dst := some 25, op := Go.Op.indexAddr 49 (Go.Operand.tmp 23) (Go.Operand.tmp 24), type := 0, pos := "zsortanyfunc.go:12", after := #[{ on := 5, ground := Go.Ground.data }, { on := 6, ground := Go.Ground.data }, { on := 3, ground := Go.Ground.guard }], guard := some (3, true) }) (v := undef) rfl (by kernel_rfl) (fun _ _ _ h => h) (Or.inr hHeld) (Or.inr ⟨by rfl, rfl⟩) ?_
        try simp only [Act.put, List.setIfInBounds_toArray, List.set_cons_zero, List.set_cons_succ]
        refine wpG_pure (i := 8) (oi := { dst := some 26, op := Go.Op.load 57 (Go.Operand.tmp 25), type := 57, pos := "zsortanyfunc.go:12", after := #[{ on := 7, ground := Go.Ground.data }, { on := 3, ground := Go.Ground.guard }], guard := some (3, true) }) (v := undef) rfl (by kernel_rfl) (fun _ _ _ h => h) (Or.inr hHeld) (Or.inr ⟨by rfl, rfl⟩) ?_
        try simp only [Act.put, List.setIfInBounds_toArray, List.set_cons_zero, List.set_cons_succ]
        refine wpG_pure (i := 9) (oi := { dst := some 27, op := Go.Op.move (Go.Operand.tmp 0), type := 49, pos := "zsortanyfunc.go:12", after := #[{ on := 3, ground := Go.Ground.guard }], guard := some (3, true) }) (v := undef) rfl (by kernel_rfl) (fun _ _ _ h => h) (Or.inr hHeld) (Or.inr ⟨by rfl, rfl⟩) ?_
        try simp only [Act.put, List.setIfInBounds_toArray, List.set_cons_zero, List.set_cons_succ]
        refine wpG_pure (i := 10) (oi := { dst := some 28, op := Go.Op.move (Go.Operand.tmp 9), type := 3, pos := "zsortanyfunc.go:12", after := #[{ on := 3, ground := Go.Ground.guard }], guard := some (3, true) }) (v := undef) rfl (by kernel_rfl) (fun _ _ _ h => h) (Or.inr hHeld) (Or.inr ⟨by rfl, rfl⟩) ?_
        try simp only [Act.put, List.setIfInBounds_toArray, List.set_cons_zero, List.set_cons_succ]
        refine wpG_pure (i := 11) (oi := { dst := some 29, op := Go.Op.binOp Go.BinOp.sub 3 (Go.Operand.tmp 28) (Go.Operand.const (Go.Value.int Go.IntKind.i64 1)) 3, type := 3, pos := "zsortanyfunc.go:12", after := #[{ on := 10, ground := Go.Ground.data }, { on := 3, ground := Go.Ground.guard }], guard := some (3, true) }) (v := undef) rfl (by kernel_rfl) (fun _ _ _ h => h) (Or.inr hHeld) (Or.inr ⟨by rfl, rfl⟩) ?_
        try simp only [Act.put, List.setIfInBounds_toArray, List.set_cons_zero, List.set_cons_succ]
        refine wpG_pure (i := 12) (oi := { dst := some 30, op := Go.Op.indexAddr 49 (Go.Operand.tmp 27) (Go.Operand.tmp 29), type := 0, pos := "zsortanyfunc.go:12", after := #[{ on := 9, ground := Go.Ground.data }, { on := 11, ground := Go.Ground.data }, { on := 3, ground := Go.Ground.guard }], guard := some (3, true) }) (v := undef) rfl (by kernel_rfl) (fun _ _ _ h => h) (Or.inr hHeld) (Or.inr ⟨by rfl, rfl⟩) ?_
        try simp only [Act.put, List.setIfInBounds_toArray, List.set_cons_zero, List.set_cons_succ]
        refine wpG_pure (i := 13) (oi := { dst := some 31, op := Go.Op.load 57 (Go.Operand.tmp 30), type := 57, pos := "zsortanyfunc.go:12", after := #[{ on := 12, ground := Go.Ground.data }, { on := 3, ground := Go.Ground.guard }], guard := some (3, true) }) (v := undef) rfl (by kernel_rfl) (fun _ _ _ h => h) (Or.inr hHeld) (Or.inr ⟨by rfl, rfl⟩) ?_
        try simp only [Act.put, List.setIfInBounds_toArray, List.set_cons_zero, List.set_cons_succ]
        refine wpG_pure (i := 14) (oi := { dst := some 32, op := Go.Op.call { callee := Go.Callee.value (Go.Operand.tmp 22), args := #[Go.Operand.tmp 26, Go.Operand.tmp 31], argTypes := #[57, 57] }, type := 3, pos := "zsortanyfunc.go:12", after := #[{ on := 4, ground := Go.Ground.data }, { on := 8, ground := Go.Ground.data }, { on := 13, ground := Go.Ground.data }, { on := 3, ground := Go.Ground.chain }, { on := 3, ground := Go.Ground.guard }], guard := some (3, true) }) (v := undef) rfl (by kernel_rfl) (fun _ _ _ h => h) (Or.inr hHeld) (Or.inr ⟨by rfl, rfl⟩) ?_
        try simp only [Act.put, List.setIfInBounds_toArray, List.set_cons_zero, List.set_cons_succ]
        refine wpG_pure (i := 15) (oi := { dst := some 33, op := Go.Op.binOp Go.BinOp.lss 3 (Go.Operand.tmp 32) (Go.Operand.const (Go.Value.int Go.IntKind.i64 0)) 3, type := 4, pos := "zsortanyfunc.go:12", after := #[{ on := 14, ground := Go.Ground.data }, { on := 3, ground := Go.Ground.guard }], guard := some (3, true) }) (v := undef) rfl (by kernel_rfl) (fun _ _ _ h => h) (Or.inr hHeld) (Or.inr ⟨by rfl, rfl⟩) ?_
        try simp only [Act.put, List.setIfInBounds_toArray, List.set_cons_zero, List.set_cons_succ]
        refine wpG_pure (i := 16) (oi := { dst := some 34, op := Go.Op.pick (Go.Operand.tmp 21) (Go.Operand.tmp 33) (Go.Operand.const (Go.Value.bool false)), type := 4, pos := "zsortanyfunc.go:12", after := #[{ on := 3, ground := Go.Ground.data }, { on := 15, ground := Go.Ground.data }], guard := none }) (v := ?vg17) rfl (by kernel_rfl) (fun _ _ _ h => h) (Or.inr hHeld) (Or.inl ⟨by rfl, ?yg17⟩) ?_
        case yg17 => (intro wS _; go_simp <;> with_reducible rfl)
        try simp only [Act.put, List.setIfInBounds_toArray, List.set_cons_zero, List.set_cons_succ]
        refine wpG_done (by kernel_rfl) ?_
        go_wp2_with fail
        go_roundw
        case rel => exact ⟨i + 1, N, by omega, .inl (by omega), by go_num, Lib.hid HR.out.drew, HST, Lib.hid (ins_stop HIN.out (Nat.le_refl _) (.inl rfl))⟩
        case measure => simp [intOf]; omega
      obtain ⟨j1, hje⟩ : ∃ j1, j1 + 1 = j := ⟨j - 1, by omega⟩
      have hlen := HR.out.len
      obtain ⟨x, hx⟩ := getD_of (L := N) (i := j) (by omega)
      obtain ⟨y, hy⟩ := getD_of (L := N) (i := j1) (by omega)
      have e1 : IntKind.i64.wrap ((j : Int) - 1) = (j1 : Int) := by rw [IntWalk.i64_in _ (by omega)]; omega
      have e2 : (j : Int) - 1 = (j1 : Int) := by omega
      have e3 : IntKind.i64.wrap (j1 : Int) = (j1 : Int) := IntWalk.i64_in _ (by omega)
      have hai : (a : Int) < (j : Int) := by omega
      have HC := Lib.hid (clo_srt x y w2.drew)
      obtain ⟨x0, x1, x2, x3⟩ := HR.out.at hx
      obtain ⟨y0, y1, y2, y3⟩ := HR.out.at hy
      have hgs := (HR.out.own.lt g rfl).2
      have hjn : j < n := by omega
      have hjn1 : j1 < n := by omega
      have hja : a ≤ j1 := by omega
      have hji : j1 < i := by omega
      by_cases hlt : x.no < y.no
      case neg =>
        have hcc : cmpI x.no y.no = 0 ∨ cmpI x.no y.no = 1 := by unfold cmpI; rw [if_neg hlt]; split <;> simp
        generalize cmpI x.no y.no = c at *
        have hcn : ¬ c < 0 := by omega
        have HSN := Lib.hid (ins_stop HIN.out (by omega) (.inr (by rw [show j - 1 = j1 by omega, kf_of hx, kf_of hy]; omega)))
        clear hlt hcc hx hy hje hlen
        go_wp2_with fail
        refine wp_region_G [14] (fun w' => (w'.cell? ⟨g, j * 4, none⟩ = some (.int .i64 x.no) ∧ w'.cell? ⟨g, j * 4 + 1, none⟩ = some (.int .i64 x.kind) ∧ w'.cell? ⟨g, j * 4 + 2, none⟩ = some (.int .i64 x.num) ∧ w'.cell? ⟨g, j * 4 + 3, none⟩ = some (.string x.data)) ∧ w'.cell? ⟨g, j1 * 4, none⟩ = some (.int .i64 y.no) ∧ w'.cell? ⟨g, j1 * 4 + 1, none⟩ = some (.int .i64 y.kind) ∧ w'.cell? ⟨g, j1 * 4 + 2, none⟩ = some (.int .i64 y.num) ∧ w'.cell? ⟨g, j1 * 4 + 3, none⟩ = some (.string y.data)) (by kernel_rfl) ?_ (fun hHeld => ?_)
        · exact ⟨⟨x0, x1, x2, x3⟩, y0, y1, y2, y3⟩
        refine wpG_pure (i := 0) (oi := { dst := some 18, op := Go.Op.move (Go.Operand.tmp 9), type := 3, pos := "zsortanyfunc.go:12", after := #[], guard := none }) (v := ?vg18) rfl (by kernel_rfl) (fun _ _ _ h => h) (Or.inr hHeld) (Or.inl ⟨by rfl, ?yg18⟩) ?_
        case yg18 => (intro wS _; go_simp <;> with_reducible rfl)
        try simp only [Act.put, List.setIfInBounds_toArray, List.set_cons_zero, List.set_cons_succ]
        refine wpG_pure (i := 1) (oi := { dst := some 19, op := Go.Op.move (Go.Operand.tmp 1), type := 3, pos := "zsortanyfunc.go:12", after := #[], guard := none }) (v := ?vg19) rfl (by kernel_rfl) (fun _ _ _ h => h) (Or.inr hHeld) (Or.inl ⟨by rfl, ?yg19⟩) ?_
        case yg19 => (intro wS _; go_simp <;> with_reducible rfl)
        try simp only [Act.put, List.setIfInBounds_toArray, List.set_cons_zero, List.set_cons_succ]
        refine wpG_pure (i := 2) (oi := { dst := some 20, op := Go.Op.binOp Go.BinOp.gtr 3 (Go.Operand.tmp 18) (Go.Operand.tmp 19) 3, type := 4, pos := "zsortanyfunc.go:12", after := #[{ on := 0, ground := Go.Ground.data }, { on := 1, ground := Go.Ground.data }], guard := none }) (v := ?vg20) rfl (by kernel_rfl) (fun _ _ _ h => h) (Or.inr hHeld) (Or.inl ⟨by rfl, ?yg20⟩) ?_
        case yg20 => (intro wS _; go_simp <;> with_reducible rfl)
        try simp only [Act.put, List.setIfInBounds_toArray, List.set_cons_zero, List.set_cons_succ]
        refine wpG_pure (i := 3) (oi := { dst := some 21, op := Go.Op.move (Go.Operand.tmp 20), type := 4, pos := "zsortanyfunc.go:12", after := #[{ on := 2, ground := Go.Ground.data }], guard := none }) (v := ?vg21) rfl (by kernel_rfl) (fun _ _ _ h => h) (Or.inr hHeld) (Or.inl ⟨by rfl, ?yg21⟩) ?_
        case yg21 => (intro wS _; go_simp <;> with_reducible rfl)
        try simp only [Act.put, List.setIfInBounds_toArray, List.set_cons_zero, List.set_cons_succ]
        refine wpG_pure (i := 4) (oi := { dst := some 22, op := Go.Op.move (Go.Operand.tmp 3), type := 114, pos := "zsortanyfunc.go:12", after := #[{ on := 3, ground := Go.Ground.guard }], guard := some (3, true) }) (v := ?vg22) rfl (by kernel_rfl) (fun _ _ _ h => h) (Or.inr hHeld) (Or.inl ⟨by rfl, ?yg22⟩) ?_
        case yg22 => (intro wS _; go_simp <;> with_reducible rfl)
        try simp only [Act.put, List.setIfInBounds_toArray, List.set_cons_zero, List.set_cons_succ]
        refine wpG_pure (i := 5) (oi := { dst := some 23, op := Go.Op.move (Go.Operand.tmp 0), type := 49, pos := "zsortanyfunc.go:12", after := #[{ on := 3, ground := Go.Ground.guard }], guard := some (3, true) }) (v := ?vg23) rfl (by kernel_rfl) (fun _ _ _ h => h) (Or.inr hHeld) (Or.inl ⟨by rfl, ?yg23⟩) ?_
        case yg23 => (intro wS _; go_simp <;> with_reducible rfl)
        try simp only [Act.put, List.setIfInBounds_toArray, List.set_cons_zero, List.set_cons_succ]
        refine wpG_pure (i := 6) (oi := { dst := some 24, op := Go.Op.move (Go.Operand.tmp 9), type := 3, pos := "zsortanyfunc.go:12", after := #[{ on := 3, ground := Go.Ground.guard }], guard := some (3, true) }) (v := ?vg24) rfl (by kernel_rfl) (fun _ _ _ h => h) (Or.inr hHeld) (Or.inl ⟨by rfl, ?yg24⟩) ?_
        case yg24 => (intro wS _; go_simp <;> with_reducible rfl)
        try simp only [Act.put, List.setIfInBounds_toArray, List.set_cons_zero, List.set_cons_succ]
        refine wpG_pure (i := 7) (oi := { dst := some 25, op := Go.Op.indexAddr 49 (Go.Operand.tmp 23) (Go.Operand.tmp 24), type := 0, pos := "zsortanyfunc.go:12", after := #[{ on := 5, ground := Go.Ground.data }, { on := 6, ground := Go.Ground.data }, { on := 3, ground := Go.Ground.guard }], guard := some (3, true) }) (v := ?vg25) rfl (by kernel_rfl) (fun _ _ _ h => h) (Or.inr hHeld) (Or.inl ⟨by rfl, ?yg25⟩) ?_
        case yg25 => (intro wS _; go_simp <;> with_reducible rfl)
        try simp only [Act.put, List.setIfInBounds_toArray, List.set_cons_zero, List.set_cons_succ]
        refine wpG_load (i := 8) (oi := { dst := some 26, op := Go.Op.load 57 (Go.Operand.tmp 25), type := 57, pos := "zsortanyfunc.go:12", after := #[{ on := 7, ground := Go.Ground.data }, { on := 3, ground := Go.Ground.guard }], guard := some (3, true) }) (v := ?vg26) [[14, 8]] rfl (by kernel_rfl) (fun _ _ _ h => h) hHeld (Or.inl ⟨by rfl, ?yg26⟩) ?_
        case yg26 => (intro wS hSw; (try dsimp only at hSw); go_simp <;> with_reducible rfl)
        try simp only [Act.put, List.setIfInBounds_toArray, List.set_cons_zero, List.set_cons_succ]
        refine wpG_pure (i := 9) (oi := { dst := some 27, op := Go.Op.move (Go.Operand.tmp 0), type := 49, pos := "zsortanyfunc.go:12", after := #[{ on := 3, ground := Go.Ground.guard }], guard := some (3, true) }) (v := ?vg27) rfl (by kernel_rfl) (fun _ _ _ h => h) (Or.inr hHeld) (Or.inl ⟨by rfl, ?yg27⟩) ?_
        case yg27 => (intro wS _; go_simp <;> with_reducible rfl)
        try simp only [Act.put, List.setIfInBounds_toArray, List.set_cons_zero, List.set_cons_succ]
        refine wpG_pure (i := 10) (oi := { dst := some 28, op := Go.Op.move (Go.Operand.tmp 9), type := 3, pos := "zsortanyfunc.go:12", after := #[{ on := 3, ground := Go.Ground.guard }], guard := some (3, true) }) (v := ?vg28) rfl (by kernel_rfl) (fun _ _ _ h => h) (Or.inr hHeld) (Or.inl ⟨by rfl, ?yg28⟩) ?_
        case yg28 => (intro wS _; go_simp <;> with_reducible rfl)
        try simp only [Act.put, List.setIfInBounds_toArray, List.set_cons_zero, List.set_cons_succ]
        refine wpG_pure (i := 11) (oi := { dst := some 29, op := Go.Op.binOp Go.BinOp.sub 3 (Go.Operand.tmp 28) (Go.Operand.const (Go.Value.int Go.IntKind.i64 1)) 3, type := 3, pos := "zsortanyfunc.go:12", after := #[{ on := 10, ground := Go.Ground.data }, { on := 3, ground := Go.Ground.guard }], guard := some (3, true) }) (v := ?vg29) rfl (by kernel_rfl) (fun _ _ _ h => h) (Or.inr hHeld) (Or.inl ⟨by rfl, ?yg29⟩) ?_
        case yg29 => (intro wS _; go_simp <;> with_reducible rfl)
        try simp only [Act.put, List.setIfInBounds_toArray, List.set_cons_zero, List.set_cons_succ]
        refine wpG_pure (i := 12) (oi := { dst := some 30, op := Go.Op.indexAddr 49 (Go.Operand.tmp 27) (Go.Operand.tmp 29), type := 0, pos := "zsortanyfunc.go:12", after := #[{ on := 9, ground := Go.Ground.data }, { on := 11, ground := Go.Ground.data }, { on := 3, ground := Go.Ground.guard }], guard := some (3, true) }) (v := ?vg30) rfl (by kernel_rfl) (fun _ _ _ h => h) (Or.inr hHeld) (Or.inl ⟨by rfl, ?yg30⟩) ?_
        case yg30 => (intro wS _; go_simp <;> with_reducible rfl)
        try simp only [Act.put, List.setIfInBounds_toArray, List.set_cons_zero, List.set_cons_succ]
        refine wpG_load (i := 13) (oi := { dst := some 31, op := Go.Op.load 57 (Go.Operand.tmp 30), type := 57, pos := "zsortanyfunc.go:12", after := #[{ on := 12, ground := Go.Ground.data }, { on := 3, ground := Go.Ground.guard }], guard := some (3, true) }) (v := ?vg31) [[14, 13]] rfl (by kernel_rfl) (fun _ _ _ h => h) hHeld (Or.inl ⟨by rfl, ?yg31⟩) ?_
        case yg31 => (intro wS hSw; (try dsimp only at hSw); go_simp <;> with_reducible rfl)
        try simp only [Act.put, List.setIfInBounds_toArray, List.set_cons_zero, List.set_cons_succ]
        refine wpG_one (i := 14) (o := { dst := some 32, op := Go.Op.call { callee := Go.Callee.value (Go.Operand.tmp 22), args := #[Go.Operand.tmp 26, Go.Operand.tmp 31], argTypes := #[57, 57] }, type := 3, pos := "zsortanyfunc.go:12", after := #[{ on := 4, ground := Go.Ground.data }, { on := 8, ground := Go.Ground.data }, { on := 13, ground := Go.Ground.data }, { on := 3, ground := Go.Ground.chain }, { on := 3, ground := Go.Ground.guard }], guard := some (3, true) }) rfl (by kernel_rfl) (fun K hK => ?_)
        go_simp
        refine HC.out.mono ?_
        rintro e w3 ⟨rfl, hb3⟩
        have HR3 := Lib.hid (HR.out.drew.step hb3)
        clear hb3
        refine hK.out _ _ (Or.inl (by kernel_rfl)) (fun _ => ?_)
        clear hK K
        try simp only [Act.put, List.setIfInBounds_toArray, List.set_cons_zero, List.set_cons_succ]
        refine wpG_pure (i := 15) (oi := { dst := some 33, op := Go.Op.binOp Go.BinOp.lss 3 (Go.Operand.tmp 32) (Go.Operand.const (Go.Value.int Go.IntKind.i64 0)) 3, type := 4, pos := "zsortanyfunc.go:12", after := #[{ on := 14, ground := Go.Ground.data }, { on := 3, ground := Go.Ground.guard }], guard := some (3, true) }) (v := ?vg33) rfl (by kernel_rfl) (fun _ _ _ h => h) (Or.inl (by kernel_rfl)) (Or.inl ⟨by rfl, ?yg33⟩) ?_
        case yg33 => (intro wS _; go_simp <;> with_reducible rfl)
        try simp only [Act.put, List.setIfInBounds_toArray, List.set_cons_zero, List.set_cons_succ]
        refine wpG_pure (i := 16) (oi := { dst := some 34, op := Go.Op.pick (Go.Operand.tmp 21) (Go.Operand.tmp 33) (Go.Operand.const (Go.Value.bool false)), type := 4, pos := "zsortanyfunc.go:12", after := #[{ on := 3, ground := Go.Ground.data }, { on := 15, ground := Go.Ground.data }], guard := none }) (v := ?vg34) rfl (by kernel_rfl) (fun _ _ _ h => h) (Or.inl (by kernel_rfl)) (Or.inl ⟨by rfl, ?yg34⟩) ?_
        case yg34 => (intro wS _; go_simp <;> with_reducible rfl)
        try simp only [Act.put, List.setIfInBounds_toArray, List.set_cons_zero, List.set_cons_succ]
        refine wpG_done (by kernel_rfl) ?_
        go_wp2_with fail
        go_roundw
        case rel => exact ⟨i + 1, N, by omega, .inl (by omega), by go_num, HR3, HST, HSN⟩
        case measure => simp [intOf]; omega
      have hcc : cmpI x.no y.no = -1 := by unfold cmpI; rw [if_pos hlt]
      rw [hcc] at HC
      have HSW := Lib.hid ((HST.out.trans ((swap_st hy hx hje (by omega)).wide (by omega) (by omega))))
      have HIS : Hid (Ins ((N.set j1 x).set j y) a i j1) := Lib.hid (by subst hje; exact ins_swap HIN.out (by omega) (by omega) hx hy hlt)
      have HJE := Lib.hid hje
      clear hlt hcc hx hy hje hlen
      go_wp2_with fail
      refine wp_region_G [14] (fun w' => (w'.cell? ⟨g, j * 4, none⟩ = some (.int .i64 x.no) ∧ w'.cell? ⟨g, j * 4 + 1, none⟩ = some (.int .i64 x.kind) ∧ w'.cell? ⟨g, j * 4 + 2, none⟩ = some (.int .i64 x.num) ∧ w'.cell? ⟨g, j * 4 + 3, none⟩ = some (.string x.data)) ∧ w'.cell? ⟨g, j1 * 4, none⟩ = some (.int .i64 y.no) ∧ w'.cell? ⟨g, j1 * 4 + 1, none⟩ = some (.int .i64 y.kind) ∧ w'.cell? ⟨g, j1 * 4 + 2, none⟩ = some (.int .i64 y.num) ∧ w'.cell? ⟨g, j1 * 4 + 3, none⟩ = some (.string y.data)) (by kernel_rfl) ?_ (fun hHeld => ?_)
      · exact ⟨⟨x0, x1, x2, x3⟩, y0, y1, y2, y3⟩
      refine wpG_pure (i := 0) (oi := { dst := some 18, op := Go.Op.move (Go.Operand.tmp 9), type := 3, pos := "zsortanyfunc.go:12", after := #[], guard := none }) (v := ?vg35) rfl (by kernel_rfl) (fun _ _ _ h => h) (Or.inr hHeld) (Or.inl ⟨by rfl, ?yg35⟩) ?_
      case yg35 => (intro wS _; go_simp <;> with_reducible rfl)
      try simp only [Act.put, List.setIfInBounds_toArray, List.set_cons_zero, List.set_cons_succ]
      refine wpG_pure (i := 1) (oi := { dst := some 19, op := Go.Op.move (Go.Operand.tmp 1), type := 3, pos := "zsortanyfunc.go:12", after := #[], guard := none }) (v := ?vg36) rfl (by kernel_rfl) (fun _ _ _ h => h) (Or.inr hHeld) (Or.inl ⟨by rfl, ?yg36⟩) ?_
      case yg36 => (intro wS _; go_simp <;> with_reducible rfl)
      try simp only [Act.put, List.setIfInBounds_toArray, List.set_cons_zero, List.set_cons_succ]
      refine wpG_pure (i := 2) (oi := { dst := some 20, op := Go.Op.binOp Go.BinOp.gtr 3 (Go.Operand.tmp 18) (Go.Operand.tmp 19) 3, type := 4, pos := "zsortanyfunc.go:12", after := #[{ on := 0, ground := Go.Ground.data }, { on := 1, ground := Go.Ground.data }], guard := none }) (v := ?vg37) rfl (by kernel_rfl) (fun _ _ _ h => h) (Or.inr hHeld) (Or.inl ⟨by rfl, ?yg37⟩) ?_
      case yg37 => (intro wS _; go_simp <;> with_reducible rfl)
      try simp only [Act.put, List.setIfInBounds_toArray, List.set_cons_zero, List.set_cons_succ]
      refine wpG_pure (i := 3) (oi := { dst := some 21, op := Go.Op.move (Go.Operand.tmp 20), type := 4, pos := "zsortanyfunc.go:12", after := #[{ on := 2, ground := Go.Ground.data }], guard := none }) (v := ?vg38) rfl (by kernel_rfl) (fun _ _ _ h => h) (Or.inr hHeld) (Or.inl ⟨by rfl, ?yg38⟩) ?_
      case yg38 => (intro wS _; go_simp <;> with_reducible rfl)
      try simp only [Act.put, List.setIfInBounds_toArray, List.set_cons_zero, List.set_cons_succ]
      refine wpG_pure (i := 4) (oi := { dst := some 22, op := Go.Op.move (Go.Operand.tmp 3), type := 114, pos := "zsortanyfunc.go:12", after := #[{ on := 3, ground := Go.Ground.guard }], guard := some (3, true) }) (v := ?vg39) rfl (by kernel_rfl) (fun _ _ _ h => h) (Or.inr hHeld) (Or.inl ⟨by rfl, ?yg39⟩) ?_
      case yg39 => (intro wS _; go_simp <;> with_reducible rfl)
      try simp only [Act.put, List.setIfInBounds_toArray, List.set_cons_zero, List.set_cons_succ]
      refine wpG_pure (i := 5) (oi := { dst := some 23, op := Go.Op.move (Go.Operand.tmp 0), type := 49, pos := "zsortanyfunc.go:12", after := #[{ on := 3, ground := Go.Ground.guard }], guard := some (3, true) }) (v := ?vg40) rfl (by kernel_rfl) (fun _ _ _ h => h) (Or.inr hHeld) (Or.inl ⟨by rfl, ?yg40⟩) ?_
      case yg40 => (intro wS _; go_simp <;> with_reducible rfl)
      try simp only [Act.put, List.setIfInBounds_toArray, List.set_cons_zero, List.set_cons_succ]
      refine wpG_pure (i := 6) (oi := { dst := some 24, op := Go.Op.move (Go.Operand.tmp 9), type := 3, pos := "zsortanyfunc.go:12", after := #[{ on := 3, ground := Go.Ground.guard }], guard := some (3, true) }) (v := ?vg41) rfl (by kernel_rfl) (fun _ _ _ h => h) (Or.inr hHeld) (Or.inl ⟨by rfl, ?yg41⟩) ?_
      case yg41 => (intro wS _; go_simp <;> with_reducible rfl)
      try simp only [Act.put, List.setIfInBounds_toArray, List.set_cons_zero, List.set_cons_succ]
      refine wpG_pure (i := 7) (oi := { dst := some 25, op := Go.Op.indexAddr 49 (Go.Operand.tmp 23) (Go.Operand.tmp 24), type := 0, pos := "zsortanyfunc.go:12", after := #[{ on := 5, ground := Go.Ground.data }, { on := 6, ground := Go.Ground.data }, { on := 3, ground := Go.Ground.guard }], guard := some (3, true) }) (v := ?vg42) rfl (by kernel_rfl) (fun _ _ _ h => h) (Or.inr hHeld) (Or.inl ⟨by rfl, ?yg42⟩) ?_
      case yg42 => (intro wS _; go_simp <;> with_reducible rfl)
      try simp only [Act.put, List.setIfInBounds_toArray, List.set_cons_zero, List.set_cons_succ]
      refine wpG_load (i := 8) (oi := { dst := some 26, op := Go.Op.load 57 (Go.Operand.tmp 25), type := 57, pos := "zsortanyfunc.go:12", after := #[{ on := 7, ground := Go.Ground.data }, { on := 3, ground := Go.Ground.guard }], guard := some (3, true) }) (v := ?vg43) [[14, 8]] rfl (by kernel_rfl) (fun _ _ _ h => h) hHeld (Or.inl ⟨by rfl, ?yg43⟩) ?_
      case yg43 => (intro wS hSw; (try dsimp only at hSw); go_simp <;> with_reducible rfl)
      try simp only [Act.put, List.setIfInBounds_toArray, List.set_cons_zero, List.set_cons_succ]
      refine wpG_pure (i := 9) (oi := { dst := some 27, op := Go.Op.move (Go.Operand.tmp 0), type := 49, pos := "zsortanyfunc.go:12", after := #[{ on := 3, ground := Go.Ground.guard }], guard := some (3, true) }) (v := ?vg44) rfl (by kernel_rfl) (fun _ _ _ h => h) (Or.inr hHeld) (Or.inl ⟨by rfl, ?yg44⟩) ?_
      case yg44 => (intro wS _; go_simp <;> with_reducible rfl)
      try simp only [Act.put, List.setIfInBounds_toArray, List.set_cons_zero, List.set_cons_succ]
      refine wpG_pure (i := 10) (oi := { dst := some 28, op := Go.Op.move (Go.Operand.tmp 9), type := 3, pos := "zsortanyfunc.go:12", after := #[{ on := 3, ground := Go.Ground.guard }], guard := some (3, true) }) (v := ?vg45) rfl (by kernel_rfl) (fun _ _ _ h => h) (Or.inr hHeld) (Or.inl ⟨by rfl, ?yg45⟩) ?_
      case yg45 => (intro wS _; go_simp <;> with_reducible rfl)
      try simp only [Act.put, List.setIfInBounds_toArray, List.set_cons_zero, List.set_cons_succ]
      refine wpG_pure (i := 11) (oi := { dst := some 29, op := Go.Op.binOp Go.BinOp.sub 3 (Go.Operand.tmp 28) (Go.Operand.const (Go.Value.int Go.IntKind.i64 1)) 3, type := 3, pos := "zsortanyfunc.go:12", after := #[{ on := 10, ground := Go.Ground.data }, { on := 3, ground := Go.Ground.guard }], guard := some (3, true) }) (v := ?vg46) rfl (by kernel_rfl) (fun _ _ _ h => h) (Or.inr hHeld) (Or.inl ⟨by rfl, ?yg46⟩) ?_
      case yg46 => (intro wS _; go_simp <;> with_reducible rfl)
      try simp only [Act.put, List.setIfInBounds_toArray, List.set_cons_zero, List.set_cons_succ]
      refine wpG_pure (i := 12) (oi := { dst := some 30, op := Go.Op.indexAddr 49 (Go.Operand.tmp 27) (Go.Operand.tmp 29), type := 0, pos := "zsortanyfunc.go:12", after := #[{ on := 9, ground := Go.Ground.data }, { on := 11, ground := Go.Ground.data }, { on := 3, ground := Go.Ground.guard }], guard := some (3, true) }) (v := ?vg47) rfl (by kernel_rfl) (fun _ _ _ h => h) (Or.inr hHeld) (Or.inl ⟨by rfl, ?yg47⟩) ?_
      case yg47 => (intro wS _; go_simp <;> with_reducible rfl)
      try simp only [Act.put, List.setIfInBounds_toArray, List.set_cons_zero, List.set_cons_succ]
      refine wpG_load (i := 13) (oi := { dst := some 31, op := Go.Op.load 57 (Go.Operand.tmp 30), type := 57, pos := "zsortanyfunc.go:12", after := #[{ on := 12, ground := Go.Ground.data }, { on := 3, ground := Go.Ground.guard }], guard := some (3, true) }) (v := ?vg48) [[14, 13]] rfl (by kernel_rfl) (fun _ _ _ h => h) hHeld (Or.inl ⟨by rfl, ?yg48⟩) ?_
      case yg48 => (intro wS hSw; (try dsimp only at hSw); go_simp <;> with_reducible rfl)
      try simp only [Act.put, List.setIfInBounds_toArray, List.set_cons_zero, List.set_cons_succ]
      refine wpG_one (i := 14) (o := { dst := some 32, op := Go.Op.call { callee := Go.Callee.value (Go.Operand.tmp 22), args := #[Go.Operand.tmp 26, Go.Operand.tmp 31], argTypes := #[57, 57] }, type := 3, pos := "zsortanyfunc.go:12", after := #[{ on := 4, ground := Go.Ground.data }, { on := 8, ground := Go.Ground.data }, { on := 13, ground := Go.Ground.data }, { on := 3, ground := Go.Ground.chain }, { on := 3, ground := Go.Ground.guard }], guard := some (3, true) }) rfl (by kernel_rfl) (fun K hK => ?_)
      go_simp
      refine HC.out.mono ?_
      rintro e w3 ⟨rfl, hb3⟩
      have HR3 := Lib.hid (HR.out.drew.step hb3)
      have HBK := Lib.hid ((Below.refl w2.heap.size w2).drew.trans hb3)
      clear hb3
      refine hK.out _ _ (Or.inl (by kernel_rfl)) (fun _ => ?_)
      clear hK K
      try simp only [Act.put, List.setIfInBounds_toArray, List.set_cons_zero, List.set_cons_succ]
      refine wpG_pure (i := 15) (oi := { dst := some 33, op := Go.Op.binOp Go.BinOp.lss 3 (Go.Operand.tmp 32) (Go.Operand.const (Go.Value.int Go.IntKind.i64 0)) 3, type := 4, pos := "zsortanyfunc.go:12", after := #[{ on := 14, ground := Go.Ground.data }, { on := 3, ground := Go.Ground.guard }], guard := some (3, true) }) (v := ?vg50) rfl (by kernel_rfl) (fun _ _ _ h => h) (Or.inl (by kernel_rfl)) (Or.inl ⟨by rfl, ?yg50⟩) ?_
      case yg50 => (intro wS _; go_simp <;> with_reducible rfl)
      try simp only [Act.put, List.setIfInBounds_toArray, List.set_cons_zero, List.set_cons_succ]
      refine wpG_pure (i := 16) (oi := { dst := some 34, op := Go.Op.pick (Go.Operand.tmp 21) (Go.Operand.tmp 33) (Go.Operand.const (Go.Value.bool false)), type := 4, pos := "zsortanyfunc.go:12", after := #[{ on := 3, ground := Go.Ground.data }, { on := 15, ground := Go.Ground.data }], guard := none }) (v := ?vg51) rfl (by kernel_rfl) (fun _ _ _ h => h) (Or.inl (by kernel_rfl)) (Or.inl ⟨by rfl, ?yg51⟩) ?_
      case yg51 => (intro wS _; go_simp <;> with_reducible rfl)
      try simp only [Act.put, List.setIfInBounds_toArray, List.set_cons_zero, List.set_cons_succ]
      refine wpG_done (by kernel_rfl) ?_
      go_wp2_with fail
      have x0' := below_later HBK.out x0
      have x1' := below_later HBK.out x1
      have x2' := below_later HBK.out x2
      have x3' := below_later HBK.out x3
      have y0' := below_later HBK.out y0
      have y1' := below_later HBK.out y1
      have y2' := below_later HBK.out y2
      have y3' := below_later HBK.out y3
      clear x0 x1 x2 x3 y0 y1 y2 y3 HR
      have HR := Lib.hid HR3.out.drew
      refine wp_region_G [15] (fun w' => (w'.cell? ⟨g, j * 4, none⟩ = some (.int .i64 x.no) ∧ w'.cell? ⟨g, j * 4 + 1, none⟩ = some (.int .i64 x.kind) ∧ w'.cell? ⟨g, j * 4 + 2, none⟩ = some (.int .i64 x.num) ∧ w'.cell? ⟨g, j * 4 + 3, none⟩ = some (.string x.data)) ∧ w'.cell? ⟨g, j1 * 4, none⟩ = some (.int .i64 y.no) ∧ w'.cell? ⟨g, j1 * 4 + 1, none⟩ = some (.int .i64 y.kind) ∧ w'.cell? ⟨g, j1 * 4 + 2, none⟩ = some (.int .i64 y.num) ∧ w'.cell? ⟨g, j1 * 4 + 3, none⟩ = some (.string y.data)) (by kernel_rfl) ?_ (fun hHeld => ?_)
      · exact ⟨⟨x0', x1', x2', x3'⟩, y0', y1', y2', y3'⟩
      refine wpG_pure (i := 0) (oi := { dst := some 37, op := Go.Op.move (Go.Operand.tmp 0), type := 49, pos := "zsortanyfunc.go:13", after := #[], guard := none }) (v := ?vg52) rfl (by kernel_rfl) (fun _ _ _ h => h) (Or.inr hHeld) (Or.inl ⟨by rfl, ?yg52⟩) ?_
      case yg52 => (intro wS _; go_simp <;> with_reducible rfl)
      try simp only [Act.put, List.setIfInBounds_toArray, List.set_cons_zero, List.set_cons_succ]
      refine wpG_pure (i := 1) (oi := { dst := some 38, op := Go.Op.move (Go.Operand.tmp 9), type := 3, pos := "zsortanyfunc.go:13", after := #[], guard := none }) (v := ?vg53) rfl (by kernel_rfl) (fun _ _ _ h => h) (Or.inr hHeld) (Or.inl ⟨by rfl, ?yg53⟩) ?_
      case yg53 => (intro wS _; go_simp <;> with_reducible rfl)
      try simp only [Act.put, List.setIfInBounds_toArray, List.set_cons_zero, List.set_cons_succ]
      refine wpG_pure (i := 2) (oi := { dst := some 39, op := Go.Op.move (Go.Operand.tmp 0), type := 49, pos := "zsortanyfunc.go:13", after := #[{ on := 15, ground := Go.Ground.gcOnly Go.Departure.lateStores }], guard := none }) (v := ?vg54) rfl (by kernel_rfl) (fun _ _ _ h => h) (Or.inr hHeld) (Or.inl ⟨by rfl, ?yg54⟩) ?_
      case yg54 => (intro wS _; go_simp <;> with_reducible rfl)
      try simp only [Act.put, List.setIfInBounds_toArray, List.set_cons_zero, List.set_cons_succ]
      refine wpG_pure (i := 3) (oi := { dst := some 40, op := Go.Op.move (Go.Operand.tmp 9), type := 3, pos := "zsortanyfunc.go:13", after := #[{ on := 15, ground := Go.Ground.gcOnly Go.Departure.lateStores }], guard := none }) (v := ?vg55) rfl (by kernel_rfl) (fun _ _ _ h => h) (Or.inr hHeld) (Or.inl ⟨by rfl, ?yg55⟩) ?_
      case yg55 => (intro wS _; go_simp <;> with_reducible rfl)
      try simp only [Act.put, List.setIfInBounds_toArray, List.set_cons_zero, List.set_cons_succ]
      refine wpG_pure (i := 4) (oi := { dst := some 41, op := Go.Op.binOp Go.BinOp.sub 3 (Go.Operand.tmp 40) (Go.Operand.const (Go.Value.int Go.IntKind.i64 1)) 3, type := 3, pos := "zsortanyfunc.go:13", after := #[{ on := 3, ground := Go.Ground.data }, { on := 15, ground := Go.Ground.gcOnly Go.Departure.lateStores }], guard := none }) (v := ?vg56) rfl (by kernel_rfl) (fun _ _ _ h => h) (Or.inr hHeld) (Or.inl ⟨by rfl, ?yg56⟩) ?_
      case yg56 => (intro wS _; go_simp <;> with_reducible rfl)
      try simp only [Act.put, List.setIfInBounds_toArray, List.set_cons_zero, List.set_cons_succ]
      refine wpG_pure (i := 5) (oi := { dst := some 42, op := Go.Op.move (Go.Operand.tmp 0), type := 49, pos := "zsortanyfunc.go:13", after := #[], guard := none }) (v := ?vg57) rfl (by kernel_rfl) (fun _ _ _ h => h) (Or.inr hHeld) (Or.inl ⟨by rfl, ?yg57⟩) ?_
      case yg57 => (intro wS _; go_simp <;> with_reducible rfl)
      try simp only [Act.put, List.setIfInBounds_toArray, List.set_cons_zero, List.set_cons_succ]
      refine wpG_pure (i := 6) (oi := { dst := some 43, op := Go.Op.move (Go.Operand.tmp 9), type := 3, pos := "zsortanyfunc.go:13", after := #[], guard := none }) (v := ?vg58) rfl (by kernel_rfl) (fun _ _ _ h => h) (Or.inr hHeld) (Or.inl ⟨by rfl, ?yg58⟩) ?_
      case yg58 => (intro wS _; go_simp <;> with_reducible rfl)
      try simp only [Act.put, List.setIfInBounds_toArray, List.set_cons_zero, List.set_cons_succ]
      refine wpG_pure (i := 7) (oi := { dst := some 44, op := Go.Op.binOp Go.BinOp.sub 3 (Go.Operand.tmp 43) (Go.Operand.const (Go.Value.int Go.IntKind.i64 1)) 3, type := 3, pos := "zsortanyfunc.go:13", after := #[{ on := 6, ground := Go.Ground.data }], guard := none }) (v := ?vg59) rfl (by kernel_rfl) (fun _ _ _ h => h) (Or.inr hHeld) (Or.inl ⟨by rfl, ?yg59⟩) ?_
      case yg59 => (intro wS _; go_simp <;> with_reducible rfl)
      try simp only [Act.put, List.setIfInBounds_toArray, List.set_cons_zero, List.set_cons_succ]
      refine wpG_pure (i := 8) (oi := { dst := some 45, op := Go.Op.indexAddr 49 (Go.Operand.tmp 42) (Go.Operand.tmp 44), type := 0, pos := "zsortanyfunc.go:13", after := #[{ on := 5, ground := Go.Ground.data }, { on := 7, ground := Go.Ground.data }], guard := none }) (v := ?vg60) rfl (by kernel_rfl) (fun _ _ _ h => h) (Or.inr hHeld) (Or.inl ⟨by rfl, ?yg60⟩) ?_
      case yg60 => (intro wS _; go_simp <;> with_reducible rfl)
      try simp only [Act.put, List.setIfInBounds_toArray, List.set_cons_zero, List.set_cons_succ]
      refine wpG_load (i := 9) (oi := { dst := some 46, op := Go.Op.load 57 (Go.Operand.tmp 45), type := 57, pos := "zsortanyfunc.go:13", after := #[{ on := 8, ground := Go.Ground.data }], guard := none }) (v := ?vg61) [[15, 9]] rfl (by kernel_rfl) (fun _ _ _ h => h) hHeld (Or.inl ⟨by rfl, ?yg61⟩) ?_
      case yg61 => (intro wS hSw; (try dsimp only at hSw); go_simp <;> with_reducible rfl)
      try simp only [Act.put, List.setIfInBounds_toArray, List.set_cons_zero, List.set_cons_succ]
      refine wpG_pure (i := 10) (oi := { dst := some 47, op := Go.Op.move (Go.Operand.tmp 0), type := 49, pos := "zsortanyfunc.go:13", after := #[], guard := none }) (v := ?vg62) rfl (by kernel_rfl) (fun _ _ _ h => h) (Or.inr hHeld) (Or.inl ⟨by rfl, ?yg62⟩) ?_
      case yg62 => (intro wS _; go_simp <;> with_reducible rfl)
      try simp only [Act.put, List.setIfInBounds_toArray, List.set_cons_zero, List.set_cons_succ]
      refine wpG_pure (i := 11) (oi := { dst := some 48, op := Go.Op.move (Go.Operand.tmp 9), type := 3, pos := "zsortanyfunc.go:13", after := #[], guard := none }) (v := ?vg63) rfl (by kernel_rfl) (fun _ _ _ h => h) (Or.inr hHeld) (Or.inl ⟨by rfl, ?yg63⟩) ?_
      case yg63 => (intro wS _; go_simp <;> with_reducible rfl)
      try simp only [Act.put, List.setIfInBounds_toArray, List.set_cons_zero, List.set_cons_succ]
      refine wpG_pure (i := 12) (oi := { dst := some 49, op := Go.Op.indexAddr 49 (Go.Operand.tmp 47) (Go.Operand.tmp 48), type := 0, pos := "zsortanyfunc.go:13", after := #[{ on := 10, ground := Go.Ground.data }, { on := 11, ground := Go.Ground.data }], guard := none }) (v := ?vg64) rfl (by kernel_rfl) (fun _ _ _ h => h) (Or.inr hHeld) (Or.inl ⟨by rfl, ?yg64⟩) ?_
      case yg64 => (intro wS _; go_simp <;> with_reducible rfl)
      try simp only [Act.put, List.setIfInBounds_toArray, List.set_cons_zero, List.set_cons_succ]
      refine wpG_load (i := 13) (oi := { dst := some 50, op := Go.Op.load 57 (Go.Operand.tmp 49), type := 57, pos := "zsortanyfunc.go:13", after := #[{ on := 12, ground := Go.Ground.data }], guard := none }) (v := ?vg65) [[15, 13]] rfl (by kernel_rfl) (fun _ _ _ h => h) hHeld (Or.inl ⟨by rfl, ?yg65⟩) ?_
      case yg65 => (intro wS hSw; (try dsimp only at hSw); go_simp <;> with_reducible rfl)
      try simp only [Act.put, List.setIfInBounds_toArray, List.set_cons_zero, List.set_cons_succ]
      refine wpG_pure (i := 14) (oi := { dst := some 51, op := Go.Op.indexAddr 49 (Go.Operand.tmp 37) (Go.Operand.tmp 38), type := 0, pos := "zsortanyfunc.go:13", after := #[{ on := 0, ground := Go.Ground.data }, { on := 1, ground := Go.Ground.data }, { on := 0, ground := Go.Ground.phase }, { on := 1, ground := Go.Ground.phase }, { on := 2, ground := Go.Ground.textOnly Go.Departure.lateStores }, { on := 3, ground := Go.Ground.textOnly Go.Departure.lateStores }, { on := 4, ground := Go.Ground.textOnly Go.Departure.lateStores }, { on := 5, ground := Go.Ground.phase }, { on := 6, ground := Go.Ground.phase }, { on := 7, ground := Go.Ground.phase }, { on := 8, ground := Go.Ground.phase }, { on := 9, ground := Go.Ground.phase }, { on := 10, ground := Go.Ground.textOnly Go.Departure.lateStores }, { on := 11, ground := Go.Ground.textOnly Go.Departure.lateStores }, { on := 12, ground := Go.Ground.textOnly Go.Departure.lateStoresUnsure }, { on := 13, ground := Go.Ground.phase }], guard := none }) (v := ?vg66) rfl (by kernel_rfl) (fun _ _ _ h => h) (Or.inr hHeld) (Or.inl ⟨by rfl, ?yg66⟩) ?_
      case yg66 => (intro wS _; go_simp <;> with_reducible rfl)
      try simp only [Act.put, List.setIfInBounds_toArray, List.set_cons_zero, List.set_cons_succ]
      refine wpG_one (i := 15) (o := { dst := none, op := Go.Op.store 57 (Go.Operand.tmp 51) (Go.Operand.tmp 46), type := 0, pos := "zsortanyfunc.go:13", after := #[{ on := 14, ground := Go.Ground.data }, { on := 9, ground := Go.Ground.data }, { on := 0, ground := Go.Ground.phase }, { on := 1, ground := Go.Ground.phase }, { on := 2, ground := Go.Ground.textOnly Go.Departure.lateStores }, { on := 3, ground := Go.Ground.textOnly Go.Departure.lateStores }, { on := 4, ground := Go.Ground.textOnly Go.Departure.lateStores }, { on := 5, ground := Go.Ground.phase }, { on := 6, ground := Go.Ground.phase }, { on := 7, ground := Go.Ground.phase }, { on := 8, ground := Go.Ground.phase }, { on := 9, ground := Go.Ground.phase }, { on := 10, ground := Go.Ground.textOnly Go.Departure.lateStores }, { on := 11, ground := Go.Ground.textOnly Go.Departure.lateStores }, { on := 12, ground := Go.Ground.textOnly Go.Departure.lateStoresUnsure }, { on := 13, ground := Go.Ground.phase }], guard := none }) rfl (by kernel_rfl) (fun K hK => ?_)
      obtain ⟨wA, wB, wC, wD, z0, z1, z2, z3, hA, hB, hC, hD, ⟨⟨p0, q0⟩, ⟨p1, q1⟩, ⟨p2, q2⟩, ⟨p3, q3⟩⟩, hRS⟩ := HR.out.put (k := j) (by omega) y
      go_simp
      replace HR := Lib.hid hRS
      clear hA hB hC hD p0 p1 p2 p3 q0 q1 q2 q3 hRS
      refine hK.out _ _ (Or.inl (by kernel_rfl)) (fun _ => ?_)
      clear hK K
      try simp only [Act.put, List.setIfInBounds_toArray, List.set_cons_zero, List.set_cons_succ]
      refine wpG_pure (i := 16) (oi := { dst := some 52, op := Go.Op.indexAddr 49 (Go.Operand.tmp 39) (Go.Operand.tmp 41), type := 0, pos := "zsortanyfunc.go:13", after := #[{ on := 2, ground := Go.Ground.data }, { on := 4, ground := Go.Ground.data }, { on := 0, ground := Go.Ground.phase }, { on := 1, ground := Go.Ground.phase }, { on := 2, ground := Go.Ground.phase }, { on := 3, ground := Go.Ground.phase }, { on := 4, ground := Go.Ground.phase }, { on := 5, ground := Go.Ground.phase }, { on := 6, ground := Go.Ground.phase }, { on := 7, ground := Go.Ground.phase }, { on := 8, ground := Go.Ground.phase }, { on := 9, ground := Go.Ground.phase }, { on := 10, ground := Go.Ground.phase }, { on := 11, ground := Go.Ground.phase }, { on := 12, ground := Go.Ground.phase }, { on := 13, ground := Go.Ground.phase }, { on := 14, ground := Go.Ground.phase }, { on := 15, ground := Go.Ground.phase }], guard := none }) (v := ?vg68) rfl (by kernel_rfl) (fun _ _ _ h => h) (Or.inl (by kernel_rfl)) (Or.inl ⟨by rfl, ?yg68⟩) ?_
      case yg68 => (intro wS _; go_simp <;> with_reducible rfl)
      try simp only [Act.put, List.setIfInBounds_toArray, List.set_cons_zero, List.set_cons_succ]
      refine wpG_one (i := 17) (o := { dst := none, op := Go.Op.store 57 (Go.Operand.tmp 52) (Go.Operand.tmp 50), type := 0, pos := "zsortanyfunc.go:13", after := #[{ on := 16, ground := Go.Ground.data }, { on := 13, ground := Go.Ground.data }, { on := 15, ground := Go.Ground.chain }, { on := 0, ground := Go.Ground.phase }, { on := 1, ground := Go.Ground.phase }, { on := 2, ground := Go.Ground.phase }, { on := 3, ground := Go.Ground.phase }, { on := 4, ground := Go.Ground.phase }, { on := 5, ground := Go.Ground.phase }, { on := 6, ground := Go.Ground.phase }, { on := 7, ground := Go.Ground.phase }, { on := 8, ground := Go.Ground.phase }, { on := 9, ground := Go.Ground.phase }, { on := 10, ground := Go.Ground.phase }, { on := 11, ground := Go.Ground.phase }, { on := 12, ground := Go.Ground.phase }, { on := 13, ground := Go.Ground.phase }, { on := 14, ground := Go.Ground.phase }, { on := 15, ground := Go.Ground.phase }], guard := none }) rfl (by kernel_rfl) (fun K hK => ?_)
      obtain ⟨wA, wB, wC, wD, z0, z1, z2, z3, hA, hB, hC, hD, ⟨⟨p0, q0⟩, ⟨p1, q1⟩, ⟨p2, q2⟩, ⟨p3, q3⟩⟩, hRS⟩ := HR.out.put (k := j1) (by omega) x
      go_simp
      replace HR := Lib.hid hRS
      clear hA hB hC hD p0 p1 p2 p3 q0 q1 q2 q3 hRS
      refine hK.out _ _ (Or.inl (by kernel_rfl)) (fun _ => ?_)
      clear hK K
      try simp only [Act.put, List.setIfInBounds_toArray, List.set_cons_zero, List.set_cons_succ]
      refine wpG_done (by kernel_rfl) ?_
      replace HR := Lib.hid (HR.out.list (M := (N.set j1 x).set j y) (by first | rfl | exact List.set_comm _ _ (by have := HJE.out; omega)))
      go_wp2_with fail
      go_roundw
      case rel => exact ⟨j1, _, by omega, by omega, by go_num, HR, HSW, HIS⟩
      case measure => simp [intOf]; omega
end Go.Proofs.Ytlmgckijbamgpaa
