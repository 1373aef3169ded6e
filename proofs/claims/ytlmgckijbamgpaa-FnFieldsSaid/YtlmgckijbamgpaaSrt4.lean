/- The parts of the stable sort over a row of fields: one is put into the run ahead. -/
import Derived.Test.YtlmgckijbamgpaaSrt3
namespace Go.Proofs.Ytlmgckijbamgpaa
set_option linter.unusedVariables false
set_option linter.unusedSimpArgs false
open Go.ChangeShapes Go.WideShapes Go.ChangeAt Go.RowKit
set_option maxRecDepth 100000

/-- the last goes down, as far as k -/
def DnS (L N : List Fld) (a m k : Nat) : Prop := St L N a (m + 1) ∧ kf N k = kf L m ∧ (∀ t, a ≤ t → t < k → kf N t = kf L t) ∧ (∀ t, k < t → t ≤ m → kf N t = kf L (t - 1))
theorem dn_start (L : List Fld) (a m : Nat) : DnS L L a m m := ⟨St.refl _ _ _, rfl, fun t _ _ => rfl, fun t h1 h2 => by omega⟩
theorem dn_next {L N : List Fld} {a m k v : Nat} {x y : Fld} (h : DnS L N a m k) (hkm : k ≤ m) (hku : v + 1 = k) (hav : a ≤ v) (hx : N[k]? = some x) (hy : N[v]? = some y) (hlt : x.no < y.no) : DnS L ((N.set k y).set v x) a m v := by
  obtain ⟨h1, h2, h3, h4⟩ := h
  have l1 := (List.getElem?_eq_some_iff.1 hx).1
  have k1 := kf_of hx
  have k2 := kf_of hy
  have e : ∀ t, kf ((N.set k y).set v x) t = if t = v then x.no else if t = k then y.no else kf N t := fun t => by
    rw [kf_set (by simp; omega), kf_set (by omega)]
  have hsw := swap_st hy hx hku (by omega)
  rw [List.set_comm _ _ (by omega : v ≠ k)] at hsw
  refine ⟨h1.trans (hsw.wide hav (by omega)), by rw [e, if_pos rfl]; omega, fun t t1 t2 => ?_, fun t t1 t2 => ?_⟩
  · rw [e, if_neg (by omega), if_neg (by omega)]; exact h3 t t1 (by omega)
  · rw [e, if_neg (by omega)]
    by_cases ht : t = k
    · rw [if_pos ht, ht, show k - 1 = v by omega, ← h3 v hav (by omega)]; exact k2.symm
    · rw [if_neg ht]; exact h4 t (by omega) t2
theorem dn_stop {L N : List Fld} {a m i : Nat} (h : DnS L N a m i) (hai : a ≤ i) (him : i ≤ m) (hs : So L a m) (hlo : ∀ t, a ≤ t → t < i → kf L t ≤ kf L m) (hhi : ∀ t, i ≤ t → t < m → kf L m < kf L t) : So N a (m + 1) := by
  obtain ⟨_, h2, h3, h4⟩ := h
  intro u v h5 h6 h7
  by_cases hu : u < i
  · rw [h3 u h5 hu]
    by_cases hv : v < i
    · rw [h3 v (by omega) hv]; exact hs u v h5 h6 (by omega)
    · by_cases hv2 : v = i
      · rw [hv2, h2]; exact hlo u h5 hu
      · rw [h4 v (by omega) (by omega)]; exact hs _ _ h5 (by omega) (by omega)
  · by_cases hu2 : u = i
    · rw [hu2, h2, h4 v (by omega) (by omega)]; have := hhi (v - 1) (by omega) (by omega); omega
    · rw [h4 u (by omega) (by omega), h4 v (by omega) (by omega)]; exact hs _ _ (by omega) (by omega) (by omega)
set_option maxHeartbeats 2000000 in
theorem merge_b (w0 : World) (g n cap : Nat) (L : List Fld) (a m b : Nat) (w : World) (hnc : n ≤ cap) (hcm : cap ≤ 9223372036854775807) (hn : n ≤ 1000000) (h1 : a < m) (h2 : m < b) (h3 : b ≤ n) (hma : ¬ m - a = 1) (hbm : b - m = 1) (hs1 : So L a m) (hR : RowS w0 g n cap L w) :
    Calls Try.prog 142 #[.slice (some ⟨g, 0, none⟩) n cap, .int .i64 (a : Int), .int .i64 (m : Int), .int .i64 (b : Int), .func (.func 86) #[] #[]] w (SortP w0 g n cap L a b) := by
  have HR0 := Lib.hid hR
  have HS1 := Lib.hid hs1
  have HBM : Hid (b = m + 1) := Lib.hid (by omega)
  clear hR hs1
  unfold SortP
  have e1 : IntKind.i64.wrap ((m : Int) - (a : Int)) = ((m - a : Nat) : Int) := by rw [IntWalk.i64_in _ (by omega)]; omega
  have e1' : (m : Int) - (a : Int) = ((m - a : Nat) : Int) := by omega
  have hq : (((m - a : Nat) : Int) == 1) = false := by rw [beq_eq_false_iff_ne]; omega
  have e2 : (b : Int) - (m : Int) = ((b - m : Nat) : Int) := by omega
  have hq2 : (((b - m : Nat) : Int) == 1) = true := by rw [hbm]; rfl
  go_enter Try.func142, Try.ntmps142
  go_wp2_with fail
  go_loopw [14, 15] (fun iv jv wr => ∃ (i j : Nat), a ≤ i ∧ i ≤ j ∧ j ≤ m ∧ iv = .int .i64 (i : Int) ∧ jv = .int .i64 (j : Int) ∧ Hid (RowS w0 g n cap L wr) ∧ Hid (∀ t, a ≤ t → t < i → kf L t ≤ kf L m) ∧ Hid (∀ t, j ≤ t → t < m → kf L m < kf L t)) (fun iv jv _ => (intOf jv).toNat - (intOf iv).toNat)
  case atStart => exact ⟨a, m, Nat.le_refl _, by omega, Nat.le_refl _, rfl, rfl, HR0, Lib.hid (fun t _ _ => by omega), Lib.hid (fun t _ _ => by omega)⟩
  case round =>
    clear HR0
    obtain ⟨w2, rfl⟩ : ∃ z : World, z = wr := ⟨_, rfl⟩
    obtain ⟨i, j, hi1, hij, hj2, rfl, rfl, HR, HLO, HHI⟩ := hrel
    have hlen := HR.out.len
    by_cases hmj : i < j
    case neg =>
      obtain rfl : i = j := by omega
      go_wp2_with fail
      go_loopw [17] (fun kv wr => ∃ (k : Nat) (M : List Fld), i ≤ k ∧ k ≤ m ∧ kv = .int .i64 (k : Int) ∧ Hid (RowS w0 g n cap M wr) ∧ Hid (DnS L M a m k)) (fun kv _ => (intOf kv).toNat)
      case atStart => exact ⟨m, L, by omega, Nat.le_refl _, rfl, HR, Lib.hid (dn_start _ _ _)⟩
      case round =>
        clear HR
        obtain ⟨w2, rfl⟩ : ∃ z : World, z = wr := ⟨_, rfl⟩
        obtain ⟨k, M, hk1, hk2, rfl, HR, HUP⟩ := hrel
        by_cases hki : i < k
        case neg =>
          obtain rfl : i = k := by omega
          have HSO := Lib.hid (dn_stop HUP.out hi1 hj2 HS1.out HLO.out HHI.out)
          go_wp2_with fail
          first | (refine bodyPost_ret (results_none rfl _ _ _) rfl ?_) | (refine bodyPost_end (results_none rfl _ _ _) rfl ?_)
          exact ⟨rfl, M, HR.out, by rw [HBM.out]; exact HUP.out.1, by rw [HBM.out]; exact HSO.out⟩
        have hlM := HR.out.len
        obtain ⟨v, hv⟩ : ∃ z, z + 1 = k := ⟨k - 1, by omega⟩
        have hvi : (k : Int) - 1 = (v : Int) := by omega
        obtain ⟨x, hx⟩ := getD_of (L := M) (i := k) (by omega)
        obtain ⟨y, hy⟩ := getD_of (L := M) (i := v) (by omega)
        have HC := Lib.hid (clo_srt x y w2.drew)
        obtain ⟨x0, x1, x2, x3⟩ := HR.out.at hx
        obtain ⟨y0, y1, y2, y3⟩ := HR.out.at hy
        have hgs := (HR.out.own.lt g rfl).2
        have k1 := kf_of hx
        have k2 := kf_of hy
        have hHIn : k < n := by omega
        have hLOn : v < n := by omega
        have HNX := Lib.hid (dn_next HUP.out hk2 hv (by omega) hx hy (by
          have e1 := HUP.out.2.1
          have e2 := HUP.out.2.2.1 v (by omega) (by omega)
          have := HHI.out v (by omega) (by omega)
          omega))
        have hku : v < k := by omega
        have hvi1 : i ≤ v := by omega
        have hvm : v ≤ m := by omega
        clear hv hx hy HC hlM hlen
        have hV1 : IntKind.i64.wrap (((k) : Nat) : Int) = (((k) : Nat) : Int) := IntWalk.i64_in _ (by omega)
        have hV2 : IntKind.i64.wrap (((v) : Nat) : Int) = (((v) : Nat) : Int) := IntWalk.i64_in _ (by omega)
        go_wp2_with fail
        replace HR := Lib.hid HR.out.drew
        refine wp_region_G [15] (fun w' => (w'.cell? ⟨g, (k) * 4, none⟩ = some (.int .i64 x.no) ∧ w'.cell? ⟨g, (k) * 4 + 1, none⟩ = some (.int .i64 x.kind) ∧ w'.cell? ⟨g, (k) * 4 + 2, none⟩ = some (.int .i64 x.num) ∧ w'.cell? ⟨g, (k) * 4 + 3, none⟩ = some (.string x.data)) ∧ w'.cell? ⟨g, (v) * 4, none⟩ = some (.int .i64 y.no) ∧ w'.cell? ⟨g, (v) * 4 + 1, none⟩ = some (.int .i64 y.kind) ∧ w'.cell? ⟨g, (v) * 4 + 2, none⟩ = some (.int .i64 y.num) ∧ w'.cell? ⟨g, (v) * 4 + 3, none⟩ = some (.string y.data)) (by kernel_rfl) ?_ (fun hHeld => ?_)
        · exact ⟨⟨x0, x1, x2, x3⟩, y0, y1, y2, y3⟩
        refine wpG_pure (i := 0) (oi := { dst := some 113, op := Go.Op.move (Go.Operand.tmp 0), type := 49, pos := "zsortanyfunc.go:422", after := #[], guard := none }) (v := ?vg1) rfl (by kernel_rfl) (fun _ _ _ h => h) (Or.inr hHeld) (Or.inl ⟨by rfl, ?yg1⟩) ?_
        case yg1 => (intro wS _; go_simp <;> with_reducible rfl)
        try simp only [Act.put, List.setIfInBounds_toArray, List.set_cons_zero, List.set_cons_succ]
        refine wpG_pure (i := 1) (oi := { dst := some 114, op := Go.Op.move (Go.Operand.tmp 17), type := 3, pos := "zsortanyfunc.go:422", after := #[], guard := none }) (v := ?vg2) rfl (by kernel_rfl) (fun _ _ _ h => h) (Or.inr hHeld) (Or.inl ⟨by rfl, ?yg2⟩) ?_
        case yg2 => (intro wS _; go_simp <;> with_reducible rfl)
        try simp only [Act.put, List.setIfInBounds_toArray, List.set_cons_zero, List.set_cons_succ]
        refine wpG_pure (i := 2) (oi := { dst := some 115, op := Go.Op.move (Go.Operand.tmp 0), type := 49, pos := "zsortanyfunc.go:422", after := #[{ on := 15, ground := Go.Ground.gcOnly Go.Departure.lateStores }], guard := none }) (v := ?vg3) rfl (by kernel_rfl) (fun _ _ _ h => h) (Or.inr hHeld) (Or.inl ⟨by rfl, ?yg3⟩) ?_
        case yg3 => (intro wS _; go_simp <;> with_reducible rfl)
        try simp only [Act.put, List.setIfInBounds_toArray, List.set_cons_zero, List.set_cons_succ]
        refine wpG_pure (i := 3) (oi := { dst := some 116, op := Go.Op.move (Go.Operand.tmp 17), type := 3, pos := "zsortanyfunc.go:422", after := #[{ on := 15, ground := Go.Ground.gcOnly Go.Departure.lateStores }], guard := none }) (v := ?vg4) rfl (by kernel_rfl) (fun _ _ _ h => h) (Or.inr hHeld) (Or.inl ⟨by rfl, ?yg4⟩) ?_
        case yg4 => (intro wS _; go_simp <;> with_reducible rfl)
        try simp only [Act.put, List.setIfInBounds_toArray, List.set_cons_zero, List.set_cons_succ]
        refine wpG_pure (i := 4) (oi := { dst := some 117, op := Go.Op.binOp Go.BinOp.sub 3 (Go.Operand.tmp 116) (Go.Operand.const (Go.Value.int Go.IntKind.i64 1)) 3, type := 3, pos := "zsortanyfunc.go:422", after := #[{ on := 3, ground := Go.Ground.data }, { on := 15, ground := Go.Ground.gcOnly Go.Departure.lateStores }], guard := none }) (v := ?vg5) rfl (by kernel_rfl) (fun _ _ _ h => h) (Or.inr hHeld) (Or.inl ⟨by rfl, ?yg5⟩) ?_
        case yg5 => (intro wS _; go_simp <;> with_reducible rfl)
        try simp only [Act.put, List.setIfInBounds_toArray, List.set_cons_zero, List.set_cons_succ]
        refine wpG_pure (i := 5) (oi := { dst := some 118, op := Go.Op.move (Go.Operand.tmp 0), type := 49, pos := "zsortanyfunc.go:422", after := #[], guard := none }) (v := ?vg6) rfl (by kernel_rfl) (fun _ _ _ h => h) (Or.inr hHeld) (Or.inl ⟨by rfl, ?yg6⟩) ?_
        case yg6 => (intro wS _; go_simp <;> with_reducible rfl)
        try simp only [Act.put, List.setIfInBounds_toArray, List.set_cons_zero, List.set_cons_succ]
        refine wpG_pure (i := 6) (oi := { dst := some 119, op := Go.Op.move (Go.Operand.tmp 17), type := 3, pos := "zsortanyfunc.go:422", after := #[], guard := none }) (v := ?vg7) rfl (by kernel_rfl) (fun _ _ _ h => h) (Or.inr hHeld) (Or.inl ⟨by rfl, ?yg7⟩) ?_
        case yg7 => (intro wS _; go_simp <;> with_reducible rfl)
        try simp only [Act.put, List.setIfInBounds_toArray, List.set_cons_zero, List.set_cons_succ]
        refine wpG_pure (i := 7) (oi := { dst := some 120, op := Go.Op.binOp Go.BinOp.sub 3 (Go.Operand.tmp 119) (Go.Operand.const (Go.Value.int Go.IntKind.i64 1)) 3, type := 3, pos := "zsortanyfunc.go:422", after := #[{ on := 6, ground := Go.Ground.data }], guard := none }) (v := ?vg8) rfl (by kernel_rfl) (fun _ _ _ h => h) (Or.inr hHeld) (Or.inl ⟨by rfl, ?yg8⟩) ?_
        case yg8 => (intro wS _; go_simp <;> with_reducible rfl)
        try simp only [Act.put, List.setIfInBounds_toArray, List.set_cons_zero, List.set_cons_succ]
        refine wpG_pure (i := 8) (oi := { dst := some 121, op := Go.Op.indexAddr 49 (Go.Operand.tmp 118) (Go.Operand.tmp 120), type := 0, pos := "zsortanyfunc.go:422", after := #[{ on := 5, ground := Go.Ground.data }, { on := 7, ground := Go.Ground.data }], guard := none }) (v := ?vg9) rfl (by kernel_rfl) (fun _ _ _ h => h) (Or.inr hHeld) (Or.inl ⟨by rfl, ?yg9⟩) ?_
        case yg9 => (intro wS _; go_simp <;> with_reducible rfl)
        try simp only [Act.put, List.setIfInBounds_toArray, List.set_cons_zero, List.set_cons_succ]
        refine wpG_load (i := 9) (oi := { dst := some 122, op := Go.Op.load 57 (Go.Operand.tmp 121), type := 57, pos := "zsortanyfunc.go:422", after := #[{ on := 8, ground := Go.Ground.data }], guard := none }) (v := ?vg10) [[15, 9]] rfl (by kernel_rfl) (fun _ _ _ h => h) hHeld (Or.inl ⟨by rfl, ?yg10⟩) ?_
        case yg10 => (intro wS hSw; (try dsimp only at hSw); go_simp <;> with_reducible rfl)
        try simp only [Act.put, List.setIfInBounds_toArray, List.set_cons_zero, List.set_cons_succ]
        refine wpG_pure (i := 10) (oi := { dst := some 123, op := Go.Op.move (Go.Operand.tmp 0), type := 49, pos := "zsortanyfunc.go:422", after := #[], guard := none }) (v := ?vg11) rfl (by kernel_rfl) (fun _ _ _ h => h) (Or.inr hHeld) (Or.inl ⟨by rfl, ?yg11⟩) ?_
        case yg11 => (intro wS _; go_simp <;> with_reducible rfl)
        try simp only [Act.put, List.setIfInBounds_toArray, List.set_cons_zero, List.set_cons_succ]
        refine wpG_pure (i := 11) (oi := { dst := some 124, op := Go.Op.move (Go.Operand.tmp 17), type := 3, pos := "zsortanyfunc.go:422", after := #[], guard := none }) (v := ?vg12) rfl (by kernel_rfl) (fun _ _ _ h => h) (Or.inr hHeld) (Or.inl ⟨by rfl, ?yg12⟩) ?_
        case yg12 => (intro wS _; go_simp <;> with_reducible rfl)
        try simp only [Act.put, List.setIfInBounds_toArray, List.set_cons_zero, List.set_cons_succ]
        refine wpG_pure (i := 12) (oi := { dst := some 125, op := Go.Op.indexAddr 49 (Go.Operand.tmp 123) (Go.Operand.tmp 124), type := 0, pos := "zsortanyfunc.go:422", after := #[{ on := 10, ground := Go.Ground.data }, { on := 11, ground := Go.Ground.data }], guard := none }) (v := ?vg13) rfl (by kernel_rfl) (fun _ _ _ h => h) (Or.inr hHeld) (Or.inl ⟨by rfl, ?yg13⟩) ?_
        case yg13 => (intro wS _; go_simp <;> with_reducible rfl)
        try simp only [Act.put, List.setIfInBounds_toArray, List.set_cons_zero, List.set_cons_succ]
        refine wpG_load (i := 13) (oi := { dst := some 126, op := Go.Op.load 57 (Go.Operand.tmp 125), type := 57, pos := "zsortanyfunc.go:422", after := #[{ on := 12, ground := Go.Ground.data }], guard := none }) (v := ?vg14) [[15, 13]] rfl (by kernel_rfl) (fun _ _ _ h => h) hHeld (Or.inl ⟨by rfl, ?yg14⟩) ?_
        case yg14 => (intro wS hSw; (try dsimp only at hSw); go_simp <;> with_reducible rfl)
        try simp only [Act.put, List.setIfInBounds_toArray, List.set_cons_zero, List.set_cons_succ]
        refine wpG_pure (i := 14) (oi := { dst := some 127, op := Go.Op.indexAddr 49 (Go.Operand.tmp 113) (Go.Operand.tmp 114), type := 0, pos := "zsortanyfunc.go:422", after := #[{ on := 0, ground := Go.Ground.data }, { on := 1, ground := Go.Ground.data }, { on := 0, ground := Go.Ground.phase }, { on := 1, ground := Go.Ground.phase }, { on := 2, ground := Go.Ground.textOnly Go.Departure.lateStores }, { on := 3, ground := Go.Ground.textOnly Go.Departure.lateStores }, { on := 4, ground := Go.Ground.textOnly Go.Departure.lateStores }, { on := 5, ground := Go.Ground.phase }, { on := 6, ground := Go.Ground.phase }, { on := 7, ground := Go.Ground.phase }, { on := 8, ground := Go.Ground.phase }, { on := 9, ground := Go.Ground.phase }, { on := 10, ground := Go.Ground.textOnly Go.Departure.lateStores }, { on := 11, ground := Go.Ground.textOnly Go.Departure.lateStores }, { on := 12, ground := Go.Ground.textOnly Go.Departure.lateStoresUnsure }, { on := 13, ground := Go.Ground.phase }], guard := none }) (v := ?vg15) rfl (by kernel_rfl) (fun _ _ _ h => h) (Or.inr hHeld) (Or.inl ⟨by rfl, ?yg15⟩) ?_
        case yg15 => (intro wS _; go_simp <;> with_reducible rfl)
        try simp only [Act.put, List.setIfInBounds_toArray, List.set_cons_zero, List.set_cons_succ]
        refine wpG_one (i := 15) (o := { dst := none, op := Go.Op.store 57 (Go.Operand.tmp 127) (Go.Operand.tmp 122), type := 0, pos := "zsortanyfunc.go:422", after := #[{ on := 14, ground := Go.Ground.data }, { on := 9, ground := Go.Ground.data }, { on := 0, ground := Go.Ground.phase }, { on := 1, ground := Go.Ground.phase }, { on := 2, ground := Go.Ground.textOnly Go.Departure.lateStores }, { on := 3, ground := Go.Ground.textOnly Go.Departure.lateStores }, { on := 4, ground := Go.Ground.textOnly Go.Departure.lateStores }, { on := 5, ground := Go.Ground.phase }, { on := 6, ground := Go.Ground.phase }, { on := 7, ground := Go.Ground.phase }, { on := 8, ground := Go.Ground.phase }, { on := 9, ground := Go.Ground.phase }, { on := 10, ground := Go.Ground.textOnly Go.Departure.lateStores }, { on := 11, ground := Go.Ground.textOnly Go.Departure.lateStores }, { on := 12, ground := Go.Ground.textOnly Go.Departure.lateStoresUnsure }, { on := 13, ground := Go.Ground.phase }], guard := none }) rfl (by kernel_rfl) (fun K hK => ?_)
        obtain ⟨wA, wB, wC, wD, z0, z1, z2, z3, hA, hB, hC, hD, ⟨⟨p0, q0⟩, ⟨p1, q1⟩, ⟨p2, q2⟩, ⟨p3, q3⟩⟩, hRS⟩ := HR.out.put (k := k) (by omega) y
        go_simp
        replace HR := Lib.hid hRS
        clear hA hB hC hD p0 p1 p2 p3 q0 q1 q2 q3 hRS
        refine hK.out _ _ (Or.inl (by kernel_rfl)) (fun _ => ?_)
        clear hK K
        try simp only [Act.put, List.setIfInBounds_toArray, List.set_cons_zero, List.set_cons_succ]
        refine wpG_pure (i := 16) (oi := { dst := some 128, op := Go.Op.indexAddr 49 (Go.Operand.tmp 115) (Go.Operand.tmp 117), type := 0, pos := "zsortanyfunc.go:422", after := #[{ on := 2, ground := Go.Ground.data }, { on := 4, ground := Go.Ground.data }, { on := 0, ground := Go.Ground.phase }, { on := 1, ground := Go.Ground.phase }, { on := 2, ground := Go.Ground.phase }, { on := 3, ground := Go.Ground.phase }, { on := 4, ground := Go.Ground.phase }, { on := 5, ground := Go.Ground.phase }, { on := 6, ground := Go.Ground.phase }, { on := 7, ground := Go.Ground.phase }, { on := 8, ground := Go.Ground.phase }, { on := 9, ground := Go.Ground.phase }, { on := 10, ground := Go.Ground.phase }, { on := 11, ground := Go.Ground.phase }, { on := 12, ground := Go.Ground.phase }, { on := 13, ground := Go.Ground.phase }, { on := 14, ground := Go.Ground.phase }, { on := 15, ground := Go.Ground.phase }], guard := none }) (v := ?vg17) rfl (by kernel_rfl) (fun _ _ _ h => h) (Or.inl (by kernel_rfl)) (Or.inl ⟨by rfl, ?yg17⟩) ?_
        case yg17 => (intro wS _; go_simp <;> with_reducible rfl)
        try simp only [Act.put, List.setIfInBounds_toArray, List.set_cons_zero, List.set_cons_succ]
        refine wpG_one (i := 17) (o := { dst := none, op := Go.Op.store 57 (Go.Operand.tmp 128) (Go.Operand.tmp 126), type := 0, pos := "zsortanyfunc.go:422", after := #[{ on := 16, ground := Go.Ground.data }, { on := 13, ground := Go.Ground.data }, { on := 15, ground := Go.Ground.chain }, { on := 0, ground := Go.Ground.phase }, { on := 1, ground := Go.Ground.phase }, { on := 2, ground := Go.Ground.phase }, { on := 3, ground := Go.Ground.phase }, { on := 4, ground := Go.Ground.phase }, { on := 5, ground := Go.Ground.phase }, { on := 6, ground := Go.Ground.phase }, { on := 7, ground := Go.Ground.phase }, { on := 8, ground := Go.Ground.phase }, { on := 9, ground := Go.Ground.phase }, { on := 10, ground := Go.Ground.phase }, { on := 11, ground := Go.Ground.phase }, { on := 12, ground := Go.Ground.phase }, { on := 13, ground := Go.Ground.phase }, { on := 14, ground := Go.Ground.phase }, { on := 15, ground := Go.Ground.phase }], guard := none }) rfl (by kernel_rfl) (fun K hK => ?_)
        obtain ⟨wA, wB, wC, wD, z0, z1, z2, z3, hA, hB, hC, hD, ⟨⟨p0, q0⟩, ⟨p1, q1⟩, ⟨p2, q2⟩, ⟨p3, q3⟩⟩, hRS⟩ := HR.out.put (k := v) (by omega) x
        go_simp
        replace HR := Lib.hid hRS
        clear hA hB hC hD p0 p1 p2 p3 q0 q1 q2 q3 hRS
        refine hK.out _ _ (Or.inl (by kernel_rfl)) (fun _ => ?_)
        clear hK K
        try simp only [Act.put, List.setIfInBounds_toArray, List.set_cons_zero, List.set_cons_succ]
        refine wpG_done (by kernel_rfl) ?_
        replace HR := Lib.hid (HR.out.list (M := (M.set (k) y).set (v) x) (by first | rfl | exact List.set_comm _ _ (by omega)))
        go_wp2_with fail
        go_roundw
        case rel => exact ⟨v, _, hvi1, hvm, by go_num, HR, HNX⟩
        case measure => (simp [intOf]; try omega)
    obtain ⟨h, hh⟩ : ∃ h : Nat, (i + j) / 2 = h := ⟨_, rfl⟩
    have hhi : ((i : Int) + (j : Int)) / 2 = (h : Int) := by omega
    have hb1 : i ≤ h := by omega
    have hb2 : h < j := by omega
    clear hh
    obtain ⟨M, hM⟩ : ∃ M, M = L := ⟨_, rfl⟩
    rw [← hM] at HR hlen HLO HHI HS1
    obtain ⟨x, hx⟩ := getD_of (L := M) (i := m) (by omega)
    obtain ⟨y, hy⟩ := getD_of (L := M) (i := h) (by omega)
    have HC := Lib.hid (clo_srt x y w2.drew)
    obtain ⟨x0, x1, x2, x3⟩ := HR.out.at hx
    obtain ⟨y0, y1, y2, y3⟩ := HR.out.at hy
    have hgs := (HR.out.own.lt g rfl).2
    have k1 := kf_of hx
    have k2 := kf_of hy
    have hHIn : m < n := by omega
    have hLOn : h < n := by omega
    by_cases hlt : x.no < y.no
    · have hcc : cmpI x.no y.no = -1 := by unfold cmpI; rw [if_pos hlt]
      rw [hcc] at HC
      have HHN : Hid (∀ t, h ≤ t → t < m → kf M m < kf M t) := Lib.hid (fun t t1 t2 => by
        by_cases hth : t = h
        · rw [hth]; omega
        · have := HS1.out h t (by omega) (by omega) t2; omega)
      clear hlt hcc hx hy
      have hW1 : IntKind.i64.wrap (((m) : Nat) : Int) = (((m) : Nat) : Int) := IntWalk.i64_in _ (by omega)
      have hW2 : IntKind.i64.wrap (((h) : Nat) : Int) = (((h) : Nat) : Int) := IntWalk.i64_in _ (by omega)
      go_wp2_with fail
      refine wp_region_G [9] (fun w' => (w'.cell? ⟨g, (m) * 4, none⟩ = some (.int .i64 x.no) ∧ w'.cell? ⟨g, (m) * 4 + 1, none⟩ = some (.int .i64 x.kind) ∧ w'.cell? ⟨g, (m) * 4 + 2, none⟩ = some (.int .i64 x.num) ∧ w'.cell? ⟨g, (m) * 4 + 3, none⟩ = some (.string x.data)) ∧ w'.cell? ⟨g, (h) * 4, none⟩ = some (.int .i64 y.no) ∧ w'.cell? ⟨g, (h) * 4 + 1, none⟩ = some (.int .i64 y.kind) ∧ w'.cell? ⟨g, (h) * 4 + 2, none⟩ = some (.int .i64 y.num) ∧ w'.cell? ⟨g, (h) * 4 + 3, none⟩ = some (.string y.data)) (by kernel_rfl) ?_ (fun hHeld => ?_)
      · exact ⟨⟨x0, x1, x2, x3⟩, y0, y1, y2, y3⟩
      refine wpG_pure (i := 0) (oi := { dst := some 92, op := Go.Op.move (Go.Operand.tmp 4), type := 114, pos := "zsortanyfunc.go:414", after := #[], guard := none }) (v := ?vg19) rfl (by kernel_rfl) (fun _ _ _ h => h) (Or.inr hHeld) (Or.inl ⟨by rfl, ?yg19⟩) ?_
      case yg19 => (intro wS _; go_simp <;> with_reducible rfl)
      try simp only [Act.put, List.setIfInBounds_toArray, List.set_cons_zero, List.set_cons_succ]
      refine wpG_pure (i := 1) (oi := { dst := some 93, op := Go.Op.move (Go.Operand.tmp 0), type := 49, pos := "zsortanyfunc.go:414", after := #[], guard := none }) (v := ?vg20) rfl (by kernel_rfl) (fun _ _ _ h => h) (Or.inr hHeld) (Or.inl ⟨by rfl, ?yg20⟩) ?_
      case yg20 => (intro wS _; go_simp <;> with_reducible rfl)
      try simp only [Act.put, List.setIfInBounds_toArray, List.set_cons_zero, List.set_cons_succ]
      refine wpG_pure (i := 2) (oi := { dst := some 94, op := Go.Op.move (Go.Operand.tmp 2), type := 3, pos := "zsortanyfunc.go:414", after := #[], guard := none }) (v := ?vg21) rfl (by kernel_rfl) (fun _ _ _ h => h) (Or.inr hHeld) (Or.inl ⟨by rfl, ?yg21⟩) ?_
      case yg21 => (intro wS _; go_simp <;> with_reducible rfl)
      try simp only [Act.put, List.setIfInBounds_toArray, List.set_cons_zero, List.set_cons_succ]
      refine wpG_pure (i := 3) (oi := { dst := some 95, op := Go.Op.indexAddr 49 (Go.Operand.tmp 93) (Go.Operand.tmp 94), type := 0, pos := "zsortanyfunc.go:414", after := #[{ on := 1, ground := Go.Ground.data }, { on := 2, ground := Go.Ground.data }], guard := none }) (v := ?vg22) rfl (by kernel_rfl) (fun _ _ _ h => h) (Or.inr hHeld) (Or.inl ⟨by rfl, ?yg22⟩) ?_
      case yg22 => (intro wS _; go_simp <;> with_reducible rfl)
      try simp only [Act.put, List.setIfInBounds_toArray, List.set_cons_zero, List.set_cons_succ]
      refine wpG_load (i := 4) (oi := { dst := some 96, op := Go.Op.load 57 (Go.Operand.tmp 95), type := 57, pos := "zsortanyfunc.go:414", after := #[{ on := 3, ground := Go.Ground.data }], guard := none }) (v := ?vg23) [[9, 4]] rfl (by kernel_rfl) (fun _ _ _ h => h) hHeld (Or.inl ⟨by rfl, ?yg23⟩) ?_
      case yg23 => (intro wS hSw; (try dsimp only at hSw); go_simp <;> with_reducible rfl)
      try simp only [Act.put, List.setIfInBounds_toArray, List.set_cons_zero, List.set_cons_succ]
      refine wpG_pure (i := 5) (oi := { dst := some 97, op := Go.Op.move (Go.Operand.tmp 0), type := 49, pos := "zsortanyfunc.go:414", after := #[], guard := none }) (v := ?vg24) rfl (by kernel_rfl) (fun _ _ _ h => h) (Or.inr hHeld) (Or.inl ⟨by rfl, ?yg24⟩) ?_
      case yg24 => (intro wS _; go_simp <;> with_reducible rfl)
      try simp only [Act.put, List.setIfInBounds_toArray, List.set_cons_zero, List.set_cons_succ]
      refine wpG_pure (i := 6) (oi := { dst := some 98, op := Go.Op.move (Go.Operand.tmp 16), type := 3, pos := "zsortanyfunc.go:414", after := #[], guard := none }) (v := ?vg25) rfl (by kernel_rfl) (fun _ _ _ h => h) (Or.inr hHeld) (Or.inl ⟨by rfl, ?yg25⟩) ?_
      case yg25 => (intro wS _; go_simp <;> with_reducible rfl)
      try simp only [Act.put, List.setIfInBounds_toArray, List.set_cons_zero, List.set_cons_succ]
      refine wpG_pure (i := 7) (oi := { dst := some 99, op := Go.Op.indexAddr 49 (Go.Operand.tmp 97) (Go.Operand.tmp 98), type := 0, pos := "zsortanyfunc.go:414", after := #[{ on := 5, ground := Go.Ground.data }, { on := 6, ground := Go.Ground.data }], guard := none }) (v := ?vg26) rfl (by kernel_rfl) (fun _ _ _ h => h) (Or.inr hHeld) (Or.inl ⟨by rfl, ?yg26⟩) ?_
      case yg26 => (intro wS _; go_simp <;> with_reducible rfl)
      try simp only [Act.put, List.setIfInBounds_toArray, List.set_cons_zero, List.set_cons_succ]
      refine wpG_load (i := 8) (oi := { dst := some 100, op := Go.Op.load 57 (Go.Operand.tmp 99), type := 57, pos := "zsortanyfunc.go:414", after := #[{ on := 7, ground := Go.Ground.data }], guard := none }) (v := ?vg27) [[9, 8]] rfl (by kernel_rfl) (fun _ _ _ h => h) hHeld (Or.inl ⟨by rfl, ?yg27⟩) ?_
      case yg27 => (intro wS hSw; (try dsimp only at hSw); go_simp <;> with_reducible rfl)
      try simp only [Act.put, List.setIfInBounds_toArray, List.set_cons_zero, List.set_cons_succ]
      refine wpG_one (i := 9) (o := { dst := some 101, op := Go.Op.call { callee := Go.Callee.value (Go.Operand.tmp 92), args := #[Go.Operand.tmp 96, Go.Operand.tmp 100], argTypes := #[57, 57] }, type := 3, pos := "zsortanyfunc.go:414", after := #[{ on := 0, ground := Go.Ground.data }, { on := 4, ground := Go.Ground.data }, { on := 8, ground := Go.Ground.data }], guard := none }) rfl (by kernel_rfl) (fun K hK => ?_)
      go_simp
      refine HC.out.mono ?_
      rintro e w3 ⟨rfl, hb3⟩
      have HR3 := Lib.hid (HR.out.drew.step hb3)
      clear hb3
      refine hK.out _ _ (Or.inl (by kernel_rfl)) (fun _ => ?_)
      clear hK K
      try simp only [Act.put, List.setIfInBounds_toArray, List.set_cons_zero, List.set_cons_succ]
      refine wpG_pure (i := 10) (oi := { dst := some 102, op := Go.Op.binOp Go.BinOp.lss 3 (Go.Operand.tmp 101) (Go.Operand.const (Go.Value.int Go.IntKind.i64 0)) 3, type := 4, pos := "zsortanyfunc.go:414", after := #[{ on := 9, ground := Go.Ground.data }], guard := none }) (v := ?vg29) rfl (by kernel_rfl) (fun _ _ _ h => h) (Or.inl (by kernel_rfl)) (Or.inl ⟨by rfl, ?yg29⟩) ?_
      case yg29 => (intro wS _; go_simp <;> with_reducible rfl)
      try simp only [Act.put, List.setIfInBounds_toArray, List.set_cons_zero, List.set_cons_succ]
      refine wpG_pure (i := 11) (oi := { dst := some 103, op := Go.Op.unOp Go.UnOp.not 4 (Go.Operand.tmp 102), type := 4, pos := "zsortanyfunc.go:414", after := #[{ on := 10, ground := Go.Ground.data }], guard := none }) (v := ?vg30) rfl (by kernel_rfl) (fun _ _ _ h => h) (Or.inl (by kernel_rfl)) (Or.inl ⟨by rfl, ?yg30⟩) ?_
      case yg30 => (intro wS _; go_simp <;> with_reducible rfl)
      try simp only [Act.put, List.setIfInBounds_toArray, List.set_cons_zero, List.set_cons_succ]
      refine wpG_done (by kernel_rfl) ?_
      go_wp2_with fail
      go_roundw
      case rel => exact ⟨i, h, hi1, hb1, by omega, rfl, rfl, by rw [← hM]; exact HR3, by rw [← hM]; exact HLO, by rw [← hM]; exact HHN⟩
      case measure => simp [intOf]; omega
    · have hcc : cmpI x.no y.no = 0 ∨ cmpI x.no y.no = 1 := by unfold cmpI; rw [if_neg hlt]; split <;> simp
      generalize cmpI x.no y.no = c at *
      have hcn : ¬ c < 0 := by omega
      have hcd : decide (c < 0) = false := decide_eq_false hcn
      have hce : (!decide (c < 0)) = true := by rw [hcd]; rfl
      have HLN : Hid (∀ t, a ≤ t → t < h + 1 → kf M t ≤ kf M m) := Lib.hid (fun t t1 t2 => by
        by_cases hth : t = h
        · rw [hth]; omega
        · have := HS1.out t h t1 (by omega) (by omega); omega)
      clear hlt hcc hx hy
      have hW1 : IntKind.i64.wrap (((m) : Nat) : Int) = (((m) : Nat) : Int) := IntWalk.i64_in _ (by omega)
      have hW2 : IntKind.i64.wrap (((h) : Nat) : Int) = (((h) : Nat) : Int) := IntWalk.i64_in _ (by omega)
      go_wp2_with fail
      refine wp_region_G [9] (fun w' => (w'.cell? ⟨g, (m) * 4, none⟩ = some (.int .i64 x.no) ∧ w'.cell? ⟨g, (m) * 4 + 1, none⟩ = some (.int .i64 x.kind) ∧ w'.cell? ⟨g, (m) * 4 + 2, none⟩ = some (.int .i64 x.num) ∧ w'.cell? ⟨g, (m) * 4 + 3, none⟩ = some (.string x.data)) ∧ w'.cell? ⟨g, (h) * 4, none⟩ = some (.int .i64 y.no) ∧ w'.cell? ⟨g, (h) * 4 + 1, none⟩ = some (.int .i64 y.kind) ∧ w'.cell? ⟨g, (h) * 4 + 2, none⟩ = some (.int .i64 y.num) ∧ w'.cell? ⟨g, (h) * 4 + 3, none⟩ = some (.string y.data)) (by kernel_rfl) ?_ (fun hHeld => ?_)
      · exact ⟨⟨x0, x1, x2, x3⟩, y0, y1, y2, y3⟩
      refine wpG_pure (i := 0) (oi := { dst := some 92, op := Go.Op.move (Go.Operand.tmp 4), type := 114, pos := "zsortanyfunc.go:414", after := #[], guard := none }) (v := ?vg31) rfl (by kernel_rfl) (fun _ _ _ h => h) (Or.inr hHeld) (Or.inl ⟨by rfl, ?yg31⟩) ?_
      case yg31 => (intro wS _; go_simp <;> with_reducible rfl)
      try simp only [Act.put, List.setIfInBounds_toArray, List.set_cons_zero, List.set_cons_succ]
      refine wpG_pure (i := 1) (oi := { dst := some 93, op := Go.Op.move (Go.Operand.tmp 0), type := 49, pos := "zsortanyfunc.go:414", after := #[], guard := none }) (v := ?vg32) rfl (by kernel_rfl) (fun _ _ _ h => h) (Or.inr hHeld) (Or.inl ⟨by rfl, ?yg32⟩) ?_
      case yg32 => (intro wS _; go_simp <;> with_reducible rfl)
      try simp only [Act.put, List.setIfInBounds_toArray, List.set_cons_zero, List.set_cons_succ]
      refine wpG_pure (i := 2) (oi := { dst := some 94, op := Go.Op.move (Go.Operand.tmp 2), type := 3, pos := "zsortanyfunc.go:414", after := #[], guard := none }) (v := ?vg33) rfl (by kernel_rfl) (fun _ _ _ h => h) (Or.inr hHeld) (Or.inl ⟨by rfl, ?yg33⟩) ?_
      case yg33 => (intro wS _; go_simp <;> with_reducible rfl)
      try simp only [Act.put, List.setIfInBounds_toArray, List.set_cons_zero, List.set_cons_succ]
      refine wpG_pure (i := 3) (oi := { dst := some 95, op := Go.Op.indexAddr 49 (Go.Operand.tmp 93) (Go.Operand.tmp 94), type := 0, pos := "zsortanyfunc.go:414", after := #[{ on := 1, ground := Go.Ground.data }, { on := 2, ground := Go.Ground.data }], guard := none }) (v := ?vg34) rfl (by kernel_rfl) (fun _ _ _ h => h) (Or.inr hHeld) (Or.inl ⟨by rfl, ?yg34⟩) ?_
      case yg34 => (intro wS _; go_simp <;> with_reducible rfl)
      try simp only [Act.put, List.setIfInBounds_toArray, List.set_cons_zero, List.set_cons_succ]
      refine wpG_load (i := 4) (oi := { dst := some 96, op := Go.Op.load 57 (Go.Operand.tmp 95), type := 57, pos := "zsortanyfunc.go:414", after := #[{ on := 3, ground := Go.Ground.data }], guard := none }) (v := ?vg35) [[9, 4]] rfl (by kernel_rfl) (fun _ _ _ h => h) hHeld (Or.inl ⟨by rfl, ?yg35⟩) ?_
      case yg35 => (intro wS hSw; (try dsimp only at hSw); go_simp <;> with_reducible rfl)
      try simp only [Act.put, List.setIfInBounds_toArray, List.set_cons_zero, List.set_cons_succ]
      refine wpG_pure (i := 5) (oi := { dst := some 97, op := Go.Op.move (Go.Operand.tmp 0), type := 49, pos := "zsortanyfunc.go:414", after := #[], guard := none }) (v := ?vg36) rfl (by kernel_rfl) (fun _ _ _ h => h) (Or.inr hHeld) (Or.inl ⟨by rfl, ?yg36⟩) ?_
      case yg36 => (intro wS _; go_simp <;> with_reducible rfl)
      try simp only [Act.put, List.setIfInBounds_toArray, List.set_cons_zero, List.set_cons_succ]
      refine wpG_pure (i := 6) (oi := { dst := some 98, op := Go.Op.move (Go.Operand.tmp 16), type := 3, pos := "zsortanyfunc.go:414", after := #[], guard := none }) (v := ?vg37) rfl (by kernel_rfl) (fun _ _ _ h => h) (Or.inr hHeld) (Or.inl ⟨by rfl, ?yg37⟩) ?_
      case yg37 => (intro wS _; go_simp <;> with_reducible rfl)
      try simp only [Act.put, List.setIfInBounds_toArray, List.set_cons_zero, List.set_cons_succ]
      refine wpG_pure (i := 7) (oi := { dst := some 99, op := Go.Op.indexAddr 49 (Go.Operand.tmp 97) (Go.Operand.tmp 98), type := 0, pos := "zsortanyfunc.go:414", after := #[{ on := 5, ground := Go.Ground.data }, { on := 6, ground := Go.Ground.data }], guard := none }) (v := ?vg38) rfl (by kernel_rfl) (fun _ _ _ h => h) (Or.inr hHeld) (Or.inl ⟨by rfl, ?yg38⟩) ?_
      case yg38 => (intro wS _; go_simp <;> with_reducible rfl)
      try simp only [Act.put, List.setIfInBounds_toArray, List.set_cons_zero, List.set_cons_succ]
      refine wpG_load (i := 8) (oi := { dst := some 100, op := Go.Op.load 57 (Go.Operand.tmp 99), type := 57, pos := "zsortanyfunc.go:414", after := #[{ on := 7, ground := Go.Ground.data }], guard := none }) (v := ?vg39) [[9, 8]] rfl (by kernel_rfl) (fun _ _ _ h => h) hHeld (Or.inl ⟨by rfl, ?yg39⟩) ?_
      case yg39 => (intro wS hSw; (try dsimp only at hSw); go_simp <;> with_reducible rfl)
      try simp only [Act.put, List.setIfInBounds_toArray, List.set_cons_zero, List.set_cons_succ]
      refine wpG_one (i := 9) (o := { dst := some 101, op := Go.Op.call { callee := Go.Callee.value (Go.Operand.tmp 92), args := #[Go.Operand.tmp 96, Go.Operand.tmp 100], argTypes := #[57, 57] }, type := 3, pos := "zsortanyfunc.go:414", after := #[{ on := 0, ground := Go.Ground.data }, { on := 4, ground := Go.Ground.data }, { on := 8, ground := Go.Ground.data }], guard := none }) rfl (by kernel_rfl) (fun K hK => ?_)
      go_simp
      refine HC.out.mono ?_
      rintro e w3 ⟨rfl, hb3⟩
      have HR3 := Lib.hid (HR.out.drew.step hb3)
      clear hb3
      refine hK.out _ _ (Or.inl (by kernel_rfl)) (fun _ => ?_)
      clear hK K
      try simp only [Act.put, List.setIfInBounds_toArray, List.set_cons_zero, List.set_cons_succ]
      refine wpG_pure (i := 10) (oi := { dst := some 102, op := Go.Op.binOp Go.BinOp.lss 3 (Go.Operand.tmp 101) (Go.Operand.const (Go.Value.int Go.IntKind.i64 0)) 3, type := 4, pos := "zsortanyfunc.go:414", after := #[{ on := 9, ground := Go.Ground.data }], guard := none }) (v := ?vg41) rfl (by kernel_rfl) (fun _ _ _ h => h) (Or.inl (by kernel_rfl)) (Or.inl ⟨by rfl, ?yg41⟩) ?_
      case yg41 => (intro wS _; go_simp <;> with_reducible rfl)
      try simp only [Act.put, List.setIfInBounds_toArray, List.set_cons_zero, List.set_cons_succ]
      refine wpG_pure (i := 11) (oi := { dst := some 103, op := Go.Op.unOp Go.UnOp.not 4 (Go.Operand.tmp 102), type := 4, pos := "zsortanyfunc.go:414", after := #[{ on := 10, ground := Go.Ground.data }], guard := none }) (v := ?vg42) rfl (by kernel_rfl) (fun _ _ _ h => h) (Or.inl (by kernel_rfl)) (Or.inl ⟨by rfl, ?yg42⟩) ?_
      case yg42 => (intro wS _; go_simp <;> with_reducible rfl)
      try simp only [Act.put, List.setIfInBounds_toArray, List.set_cons_zero, List.set_cons_succ]
      refine wpG_done (by kernel_rfl) ?_
      go_wp2_with fail
      go_roundw
      case rel => exact ⟨h + 1, j, by omega, by omega, hj2, by go_num, rfl, by rw [← hM]; exact HR3, by rw [← hM]; exact HLN, by rw [← hM]; exact HHI⟩
      case measure => simp [intOf]; omega
      try (case roundEnd => rename_i hq9; rw [hcd] at hq9; exact absurd hq9 (by decide))
end Go.Proofs.Ytlmgckijbamgpaa
