/- A filter turned: the program's contract. -/
import Derived.Test.YtlmgckijbamgpaaFltT
import Derived.Test.YtlmgckijbamgpaaKind
import Derived.Test.YtlmgckijbamgpaaSched
import Derived.Deep.AppendLies
import Derived.Laws.OwnMore
namespace Go.Proofs.Ytlmgckijbamgpaa
set_option linter.unusedVariables false
set_option linter.unusedSimpArgs false
open Go.ChangeShapes Go.WideShapes Go.ChangeAt Go.RowKit
set_option maxRecDepth 100000

theorem Try.infoWant : (Try.prog.info? 134).map (fun i => (i.zero, i.size, i.bytes)) = some (some (.agg #[.int .i64 0, .int .i64 0, .int .i64 0, .string ByteArray.empty, .int .i64 0, .int .i64 0]), 6, 56) := by kernel_rfl
/-- a filter and whether there is one -/
def FilO (R : List Wn × Bool) (w : World) (e : Ending) (w' : World) : Prop :=
  ∃ v, e = .returned (.tuple #[.agg #[v], .bool R.2]) ∧ w'.ownsRow w.heap.size 134 6 v R.1.length (wnsV R.1) ∧ Below w.heap.size w w'
theorem own_wn {w : World} {base n : Nat} {v : Value} {l : List Wn} {f : Wn} (hn : l.length = n) (h : w.ownsRow base 134 6 v (n + 1) (wnsV l ++ [.int .i64 f.kind, .int .i64 f.no, .int .i64 f.num, .string f.text, .int .i64 f.a, .int .i64 f.b])) : w.ownsRow base 134 6 v (l ++ [f]).length (wnsV (l ++ [f])) := by
  rw [wnsV_snoc, List.length_append, hn]; exact h
theorem below_drew {B : Nat} {w w1 : World} (h : Below B w w1) : Below B w w1.drew := ⟨h.os, h.tape, h.output, h.size, h.block⟩
theorem below_frz {B : Nat} {w w' : World} (h : Below B w w') {b i : Nat} {q : Bool} (hc : w.frozen? ⟨b, i, none⟩ = q) (hb : b < B) : w'.frozen? ⟨b, i, none⟩ = q := (h.frozen (p := ⟨b, i, none⟩) hb).trans hc
set_option maxHeartbeats 1000000 in
theorem clone_wns (b off cap : Nat) (l : List Wn) (w : World) (hrow : Rw w (some ⟨b, off, none⟩) (wnsV l)) (hl : l.length ≤ 1000000) :
    Calls Try.prog 111 #[.slice (some ⟨b, off, none⟩) l.length cap] w fun e w' => ∃ v, e = .returned v ∧ w'.ownsRow w.heap.size 134 6 v l.length (wnsV l) ∧ Below w.heap.size w w' := by
  obtain ⟨i0, hi, hz0, hz1, hz2⟩ := info_parts Try.infoWant
  have HNEWS : Hid (∀ (j : Nat) (u : Value), (wnsV l)[j]? = some u → (w.alloc (.cells #[] 134)).cell? ((⟨b, off, none⟩ : Addr).add j) = some u) := Lib.hid fun j u hj => by
    obtain ⟨b2, o2, h1, h2, h3⟩ := hrow.at (fun e => by rw [e] at hj; simp at hj)
    cases h1
    have := (below_later ((Below.refl w.heap.size w).alloc (Nat.le_refl _) (.cells #[] 134)) (h3 j u hj))
    cases j with
    | zero => simpa [Addr.add] using this
    | succ j => simpa [Addr.add] using this
  have HO : Hid ((w.alloc (.cells #[] 134)).ownsRow w.heap.size 134 6 (.slice (some ⟨w.heap.size, 0, none⟩) 0 0) 0 []) := Lib.hid (World.ownsRow_lit w #[] 0 (Nat.le_refl _) (by decide) rfl)
  have HLN := Lib.hid (wnsV_len l)
  have HOC := Lib.hid (wnsV_oc l)
  obtain ⟨n, hn⟩ : ∃ n, l.length = n := ⟨_, rfl⟩
  rw [hn] at HLN hl ⊢
  clear hrow hn
  have qT : ∀ (w : World) (a : Option Addr) (n c n' c' : Nat), (binOp .eql 59 (.slice a n c) (.slice none n' c')).run Try.prog w = .ok (.bool a.isNone) w := fun w a n c n' c' => Lib.run_eql_slice_nil w _ _ a n c n' c' Try.underlying59
  go_enter Try.func111, Try.ntmps111
  go_wp2_with (at_builtin; refine wpList_append_own _ rfl _ _ 59 rfl w.heap.size 134 i0 (.agg #[.int .i64 0, .int .i64 0, .int .i64 0, .string ByteArray.empty, .int .i64 0, .int .i64 0]) 6 56 Try.underlying59 hi hz0 hz1 hz2 rfl (by decide) _ 0 [] rfl HO.out ⟨b, off, none⟩ n cap (wnsV l) rfl HLN.out HNEWS.out HOC.out (by unfold maxLen; omega) (by omega) (by simp) ?_)
  intro v9 w9 hown hgrow hnil
  have HB9 := Lib.hid (Below.grown ((Below.refl w.heap.size w).alloc (Nat.le_refl _) (.cells #[] 134)) hgrow (by simp) (fun j hj => (HO.out.lt j hj).1))
  have HOW := Lib.hid hown
  clear hown hgrow hnil
  go_wp2_with fail
  go_ret
  exact ⟨v9, rfl, HOW.out, HB9.out⟩
def FofO (a : Option Addr) (n c : Nat) (w : World) (e : Ending) (w' : World) : Prop :=
  ∃ (xa : Option Addr) (xn xc : Nat) (r : Bool), e = .returned (.tuple #[.agg #[.slice xa xn xc], .bool r]) ∧ Below w.heap.size w w' ∧ (n ≤ 20 → (xa = a ∧ xn = n ∧ xc = c) ∧ r = true) ∧ (¬ n ≤ 20 → (xa = none ∧ xn = 0 ∧ xc = 0) ∧ r = false)
set_option maxHeartbeats 1000000 in
theorem impl_filterOf (a : Option Addr) (n c : Nat) (w : World) (hn : n ≤ 1000000) : Calls Try.prog 110 #[.slice a n c] w (FofO a n c w) := by
  have HB := Lib.hid ((Below.refl w.heap.size w).alloc (Nat.le_refl _) (.cells #[.slice none 0 0] 61))
  have HB2 := Lib.hid ((Below.refl w.heap.size w).alloc (Nat.le_refl _) (.cells #[.slice a n c] 61))
  by_cases h : n ≤ 20
  · have h2 : ¬ (n : Int) > 20 := by omega
    go_enter Try.func110, Try.ntmps110
    go_wp2_with fail
    refine bodyPost_ret (v := .tuple #[.agg #[.slice a n c], .bool true]) (by simp [results, Try.results110, go_sem]) rfl ⟨_, _, _, _, rfl, ?_, fun _ => ⟨⟨rfl, rfl, rfl⟩, rfl⟩, fun hc => absurd h hc⟩
    exact HB2.out
  · have h2 : (n : Int) > 20 := by omega
    go_enter Try.func110, Try.ntmps110
    go_wp2_with fail
    refine bodyPost_ret (v := .tuple #[.agg #[.slice none 0 0], .bool false]) (by simp [results, Try.results110, go_sem]) rfl ⟨_, _, _, _, rfl, ?_, fun hc => absurd hc h, fun _ => ⟨⟨rfl, rfl, rfl⟩, rfl⟩⟩
    exact HB.out
theorem Rnot_bad {l : List Wn} (h : R_GoodW l = false) : R_Not l = ([], false) := by unfold R_Not; rw [if_neg (by rw [h]; simp)]
theorem Rnot_full {l : List Wn} (h : ¬ l.length < 20) : R_Not l = ([], false) := by unfold R_Not; rw [if_neg (by intro hc; exact h hc.2)]
theorem Rnot_yes {l : List Wn} (h : R_GoodW l = true) (h2 : l.length < 20) : R_Not l = (l ++ [⟨8, 0, 0, ⟨#[]⟩, (l.length : Int) - 1, 0⟩], true) := by unfold R_Not; rw [if_pos ⟨h, h2⟩]
set_option maxHeartbeats 4000000 in
theorem impl_NotFilter (la : Option Addr) (lc : Nat) (l : List Wn) (w : World) (hrow : Rw w la (wnsV l)) (hn : l.length ≤ 1000000) : Calls Try.prog 50 #[.agg #[.slice la l.length lc]] w (FilO (R_Not l) w) := by
  obtain ⟨i0, hi, hz0, hz1, hz2⟩ := info_parts Try.infoWant
  have HGF := Lib.hid (fun wx (h : Rw wx la (wnsV l)) => impl_GoodFilter la lc l wx h (by omega))
  have HRW := Lib.hid hrow
  cases hG : R_GoodW l with
  | false =>
    rw [hG] at HGF
    rw [Rnot_bad hG]
    obtain ⟨n, hnl⟩ : ∃ n, l.length = n := ⟨_, rfl⟩
    rw [hnl] at HGF ⊢
    clear hG hrow hn hnl
    have HC2 := Lib.hid (heap_alloc_new (w.alloc (.cells #[.slice la n lc] 61)) (.cells #[.slice none 0 0] 61))
    have HB2 := Lib.hid (((Below.refl w.heap.size w).alloc (Nat.le_refl _) (.cells #[.slice la n lc] 61)).alloc (by simp) (.cells #[.slice none 0 0] 61))
    go_enter Try.func50, Try.ntmps50
    go_wp2_with fail
    generalize hwz : (w.alloc (.cells #[.slice la n lc] 61)).alloc (.cells #[.slice none 0 0] 61) = wz at *
    refine (HGF.out _ (HRW.out.below HB2.out)).mono ?_
    rintro e w3 ⟨rfl, hb⟩
    have hc3 := heap_keep hb HC2.out
    have y0 : w3.cell? ⟨w.heap.size + 1, 0, none⟩ = some (.slice none 0 0) := by simp at hc3; simp [World.cell?, hc3]
    have y1 : w3.frozen? ⟨w.heap.size + 1, 0, none⟩ = false := by simp at hc3; simp [World.frozen?, hc3]
    have HB3 := Lib.hid ((rstep HB2.out hb).setCell (p := ⟨w.heap.size + 1, 0, none⟩) (by simp) (.slice none 0 0))
    have y2 := World.cell?_setCell_same w3 ⟨w.heap.size + 1, 0, none⟩ (.slice none 0 0) y0
    clear hb hc3
    go_wp2_with fail
    refine bodyPost_ret (v := .tuple #[.agg #[.slice none 0 0], .bool false]) (by simp [results, Try.results50, go_sem, y2]) rfl ⟨_, rfl, World.ownsRow_nil _ _ _ _, ?_⟩
    exact HB3.out
  | true =>
    rw [hG] at HGF
    have hl := good_len hG
    have hl1 := hl.1
    have hl2 := hl.2
    have HFULL := Lib.hid (fun h => Rnot_full (l := l) h)
    have HYES := Lib.hid (Rnot_yes hG)
    generalize R_Not l = R at *
    obtain ⟨b, off, rfl, hbl, _⟩ := hrow.at (wnsV_ne (k := 0) (by omega))
    have HCL := Lib.hid (fun wx (h : Rw wx (some ⟨b, off, none⟩) (wnsV l)) => clone_wns b off lc l wx h (by omega))
    obtain ⟨n, hnl⟩ : ∃ n, l.length = n := ⟨_, rfl⟩
    have HNL := Lib.hid hnl
    rw [hnl] at HGF HFULL HYES hl1 hl2 HCL ⊢
    clear hG hrow hn hnl hl
    have HC1 := Lib.hid (heap_alloc_new w (.cells #[.slice (some ⟨b, off, none⟩) n lc] 61))
    have HC2 := Lib.hid (heap_alloc_new (w.alloc (.cells #[.slice (some ⟨b, off, none⟩) n lc] 61)) (.cells #[.slice none 0 0] 61))
    have HB2 := Lib.hid (((Below.refl w.heap.size w).alloc (Nat.le_refl _) (.cells #[.slice (some ⟨b, off, none⟩) n lc] 61)).alloc (by simp) (.cells #[.slice none 0 0] 61))
    have HC1' := Lib.hid (heap_keep ((Below.refl (w.alloc (.cells #[.slice (some ⟨b, off, none⟩) n lc] 61)).heap.size _).alloc (Nat.le_refl _) (.cells #[.slice none 0 0] 61)) HC1.out)
    have hzz : ((w.alloc (.cells #[.slice (some ⟨b, off, none⟩) n lc] 61)).alloc (.cells #[.slice none 0 0] 61)).heap.size = w.heap.size + 2 := by simp
    rw [World.size_alloc] at HC2
    have hwm : IntKind.i64.wrap ((n : Int) - 1) = (n : Int) - 1 := IntWalk.i64_in _ (by omega)
    go_enter Try.func50, Try.ntmps50
    go_wp2_with fail
    generalize hwz : (w.alloc (.cells #[.slice (some ⟨b, off, none⟩) n lc] 61)).alloc (.cells #[.slice none 0 0] 61) = wz at *
    have HZZ := Lib.hid hzz
    clear hzz hwz
    refine (HGF.out _ (HRW.out.below HB2.out)).mono ?_
    rintro e w3 ⟨rfl, hb⟩
    have HK1 : Hid (∀ wx, Below wz.heap.size wz wx → wx.cell? ⟨w.heap.size, 0, none⟩ = some (.slice (some ⟨b, off, none⟩) n lc)) := Lib.hid (fun wx h => by
      have := heap_keep h HC1'.out
      simp [World.cell?, this])
    have HK2 : Hid (∀ wx, Below wz.heap.size wz wx → wx.cell? ⟨w.heap.size + 1, 0, none⟩ = some (.slice none 0 0) ∧ wx.frozen? ⟨w.heap.size + 1, 0, none⟩ = false) := Lib.hid (fun wx h => by
      have := heap_keep h HC2.out
      simp [World.cell?, World.frozen?, this])
    have HRZ : Hid (∀ wx, Below wz.heap.size wz wx → Rw wx (some ⟨b, off, none⟩) (wnsV l)) := Lib.hid (fun wx h => HRW.out.below (HB2.out.trans (h.mono (by rw [HZZ.out]; omega))))
    have HBX := Lib.hid hb
    clear hb
    have y0 := HK1.out _ HBX.out
    have HM63 : n + 1 ≤ maxLen := by unfold maxLen; omega
    go_wp2_with fail
    replace HBX := Lib.hid (below_drew HBX.out)
    refine wp_region_G [9] (fun w' => w'.cell? ⟨w.heap.size, 0, none⟩ = some (.slice (some ⟨b, off, none⟩) n lc)) (by kernel_rfl) ?_ (fun hHeld => ?_)
    · exact y0
    refine wpG_pure (i := 0) (oi := { dst := some 8, op := Go.Op.fieldAddr 61 (Go.Operand.tmp 1) 0, type := 0, pos := "l7_filter.go:150", after := #[], guard := none }) (v := ?vg1) rfl (by kernel_rfl) (fun _ _ _ h => h) (Or.inr hHeld) (Or.inl ⟨by rfl, ?yg1⟩) ?_
    case yg1 => (intro wS _; go_simp <;> with_reducible rfl)
    try simp only [Act.put, List.setIfInBounds_toArray, List.set_cons_zero, List.set_cons_succ]
    refine wpG_load (i := 1) (oi := { dst := some 9, op := Go.Op.load 59 (Go.Operand.tmp 8), type := 59, pos := "l7_filter.go:150", after := #[{ on := 0, ground := Go.Ground.data }], guard := none }) (v := ?vg2) [[9, 2, 1]] rfl (by kernel_rfl) (fun _ _ _ h => h) hHeld (Or.inl ⟨by rfl, ?yg2⟩) ?_
    case yg2 => (intro wS hSw; (try dsimp only at hSw); go_simp <;> with_reducible rfl)
    try simp only [Act.put, List.setIfInBounds_toArray, List.set_cons_zero, List.set_cons_succ]
    refine wpG_pure (i := 3) (oi := { dst := some 11, op := Go.Op.fieldAddr 61 (Go.Operand.tmp 1) 0, type := 0, pos := "l7_filter.go:150", after := #[], guard := none }) (v := ?vg3) rfl (by kernel_rfl) (fun _ _ _ h => h) (Or.inr hHeld) (Or.inl ⟨by rfl, ?yg3⟩) ?_
    case yg3 => (intro wS _; go_simp <;> with_reducible rfl)
    try simp only [Act.put, List.setIfInBounds_toArray, List.set_cons_zero, List.set_cons_succ]
    refine wpG_load (i := 4) (oi := { dst := some 12, op := Go.Op.load 59 (Go.Operand.tmp 11), type := 59, pos := "l7_filter.go:150", after := #[{ on := 3, ground := Go.Ground.data }], guard := none }) (v := ?vg4) [[9, 8, 7, 6, 5, 4]] rfl (by kernel_rfl) (fun _ _ _ h => h) hHeld (Or.inl ⟨by rfl, ?yg4⟩) ?_
    case yg4 => (intro wS hSw; (try dsimp only at hSw); go_simp <;> with_reducible rfl)
    try simp only [Act.put, List.setIfInBounds_toArray, List.set_cons_zero, List.set_cons_succ]
    refine wpG_pure (i := 5) (oi := { dst := some 13, op := Go.Op.call { callee := Go.Callee.builtin Go.Builtin.len, args := #[Go.Operand.tmp 12], argTypes := #[59] }, type := 3, pos := "l7_filter.go:150", after := #[{ on := 4, ground := Go.Ground.data }], guard := none }) (v := ?vg5) rfl (by kernel_rfl) (fun _ _ _ h => h) (Or.inr hHeld) (Or.inl ⟨by rfl, ?yg5⟩) ?_
    case yg5 => (intro wS _; go_simp <;> with_reducible rfl)
    try simp only [Act.put, List.setIfInBounds_toArray, List.set_cons_zero, List.set_cons_succ]
    refine wpG_pure (i := 6) (oi := { dst := some 14, op := Go.Op.binOp Go.BinOp.sub 3 (Go.Operand.tmp 13) (Go.Operand.const (Go.Value.int Go.IntKind.i64 1)) 3, type := 3, pos := "l7_filter.go:150", after := #[{ on := 5, ground := Go.Ground.data }], guard := none }) (v := ?vg6) rfl (by kernel_rfl) (fun _ _ _ h => h) (Or.inr hHeld) (Or.inl ⟨by rfl, ?yg6⟩) ?_
    case yg6 => (intro wS _; go_simp <;> with_reducible rfl)
    try simp only [Act.put, List.setIfInBounds_toArray, List.set_cons_zero, List.set_cons_succ]
    refine wpG_pure (i := 7) (oi := { dst := some 15, op := Go.Op.build 134 #[(0, Go.Operand.const (Go.Value.int Go.IntKind.i64 8)), (4, Go.Operand.tmp 14)], type := 134, pos := "l7_filter.go:150", after := #[{ on := 6, ground := Go.Ground.data }], guard := none }) (v := ?vg7) rfl (by kernel_rfl) (fun _ _ _ h => h) (Or.inr hHeld) (Or.inl ⟨by rfl, ?yg7⟩) ?_
    case yg7 => (intro wS _; go_simp <;> with_reducible rfl)
    try simp only [Act.put, List.setIfInBounds_toArray, List.set_cons_zero, List.set_cons_succ]
    refine wpG_two (i := 2) (j := 8) (o := { dst := some 10, op := Go.Op.call { callee := Go.Callee.value (Go.Operand.func 111), args := #[Go.Operand.tmp 9], argTypes := #[59] }, type := 59, pos := "l7_filter.go:150", after := #[{ on := 1, ground := Go.Ground.data }], guard := none }) (o' := { dst := some 16, op := Go.Op.buildSlice 59 1 #[(0, Go.Operand.tmp 15)], type := 59, pos := "l7_filter.go:150", after := #[{ on := 7, ground := Go.Ground.data }], guard := none }) rfl rfl (by kernel_rfl) (fun K hK => ?_) (fun K hK => ?_)
    · skip
      go_simp
      refine (HCL.out _ (HRZ.out _ HBX.out)).mono ?_
      rintro e w7 ⟨v7, rfl, ho7, hb7⟩
      have HO7 := Lib.hid (own_mono ho7 HBX.out.size)
      obtain ⟨va, vc, rfl⟩ := form_of_own ho7
      try (replace HLT := Lib.hid (heap_keep hb7 HLT.out))
      replace HBX := Lib.hid (rstep HBX.out hb7)
      clear ho7 hb7
      refine hK.out _ _ (Or.inr ?khHeld8) (fun hHeld8S => ?_)
      case khHeld8 => exact HK1.out _ HBX.out
      have hHeld8 := hHeld8S.held (by kernel_rfl)
      clear hK K
      try simp only [Act.put, List.setIfInBounds_toArray, List.set_cons_zero, List.set_cons_succ]
      refine wpG_one (i := 8) (o := { dst := some 16, op := Go.Op.buildSlice 59 1 #[(0, Go.Operand.tmp 15)], type := 59, pos := "l7_filter.go:150", after := #[{ on := 7, ground := Go.Ground.data }], guard := none }) rfl (by kernel_rfl) (fun K hK => ?_)
      go_simp
      first | (have HLT := Lib.hid (heap_alloc_new w7 (.cells #[.int .i64 8, .int .i64 0, .int .i64 0, .string ⟨#[]⟩, .int .i64 ((n : Int) - 1), .int .i64 0] 134)); replace HO7 := Lib.hid (HO7.out.alloc (.cells #[.int .i64 8, .int .i64 0, .int .i64 0, .string ⟨#[]⟩, .int .i64 ((n : Int) - 1), .int .i64 0] 134))) | (have HLT := Lib.hid (heap_alloc_new w3.drew (.cells #[.int .i64 8, .int .i64 0, .int .i64 0, .string ⟨#[]⟩, .int .i64 ((n : Int) - 1), .int .i64 0] 134)))
      replace HBX := Lib.hid (HBX.out.alloc HBX.out.size (.cells #[.int .i64 8, .int .i64 0, .int .i64 0, .string ⟨#[]⟩, .int .i64 ((n : Int) - 1), .int .i64 0] 134))
      refine hK.out _ _ (Or.inr ?khHeld9) (fun hHeld9S => ?_)
      case khHeld9 => exact HK1.out _ HBX.out
      have hHeld9 := hHeld9S.held (by kernel_rfl)
      clear hK K
      try simp only [Act.put, List.setIfInBounds_toArray, List.set_cons_zero, List.set_cons_succ]
      refine wpG_one (i := 9) (o := { dst := some 17, op := Go.Op.call { callee := Go.Callee.builtin Go.Builtin.append, args := #[Go.Operand.tmp 10, Go.Operand.tmp 16], argTypes := #[59, 59] }, type := 59, pos := "l7_filter.go:150", after := #[{ on := 2, ground := Go.Ground.data }, { on := 8, ground := Go.Ground.data }, { on := 2, ground := Go.Ground.chain }], guard := none }) rfl (by kernel_rfl) (fun K hK => ?_)
      refine step_append_lies _ rfl (.tmp 10) (.tmp 16) 59 rfl wz.heap.size 134 i0 (.agg #[.int .i64 0, .int .i64 0, .int .i64 0, .string ByteArray.empty, .int .i64 0, .int .i64 0]) 6 56 Try.underlying59 hi hz0 hz1 hz2 rfl (by decide) _ n (wnsV l) rfl HO7.out _ 1 1 [.int .i64 8, .int .i64 0, .int .i64 0, .string ⟨#[]⟩, .int .i64 ((n : Int) - 1), .int .i64 0] rfl rfl (World.news_of_block HLT.out) (by simp [Value.oneCell']) (by omega) HM63 (by omega) HBX.out.size _ rfl ?_
      intro g8 c8 w8 hown hgrow _ _
      have HO8 := Lib.hid (own_wn (f := ⟨8, 0, 0, ⟨#[]⟩, (n : Int) - 1, 0⟩) HNL.out hown)
      replace HBX := Lib.hid (Below.grown HBX.out hgrow HBX.out.size (fun j hj => (HO7.out.lt j hj).1))
      clear hown hgrow HLT HO7
      refine hK.out _ _ (Or.inl (by kernel_rfl)) (fun _ => ?_)
      clear hK K
      try simp only [Act.put, List.setIfInBounds_toArray, List.set_cons_zero, List.set_cons_succ]
      refine wpG_one (i := 10) (o := { dst := some 18, op := Go.Op.call { callee := Go.Callee.value (Go.Operand.func 110), args := #[Go.Operand.tmp 17], argTypes := #[59] }, type := 78, pos := "l7_filter.go:150", after := #[{ on := 9, ground := Go.Ground.data }, { on := 9, ground := Go.Ground.chain }], guard := none }) rfl (by kernel_rfl) (fun K hK => ?_)
      go_simp
      refine (impl_filterOf _ (n + 1) c8 _ (by omega)).mono ?_
      rintro e w10 ⟨xa, xn, xc, r10, rfl, hb, hv1, hv2⟩
      have HV1 := Lib.hid hv1; have HV2 := Lib.hid hv2
      replace HO8 := Lib.hid (own_later HO8.out hb)
      replace HBX := Lib.hid (rstep HBX.out hb)
      obtain ⟨e1, e2⟩ := HK2.out _ HBX.out
      clear hb hv1 hv2
      refine hK.out _ _ (Or.inl (by kernel_rfl)) (fun _ => ?_)
      clear hK K
      try simp only [Act.put, List.setIfInBounds_toArray, List.set_cons_zero, List.set_cons_succ]
      refine wpG_pure (i := 11) (oi := { dst := some 19, op := Go.Op.extract (Go.Operand.tmp 18) 0, type := 61, pos := "l7_filter.go:150", after := #[{ on := 10, ground := Go.Ground.data }], guard := none }) (v := ?vg12) rfl (by kernel_rfl) (fun _ _ _ h => h) (Or.inl (by kernel_rfl)) (Or.inl ⟨by rfl, ?yg12⟩) ?_
      case yg12 => (intro wS _; go_simp <;> with_reducible rfl)
      try simp only [Act.put, List.setIfInBounds_toArray, List.set_cons_zero, List.set_cons_succ]
      refine wpG_pure (i := 12) (oi := { dst := some 20, op := Go.Op.extract (Go.Operand.tmp 18) 1, type := 4, pos := "l7_filter.go:150", after := #[{ on := 10, ground := Go.Ground.data }], guard := none }) (v := ?vg13) rfl (by kernel_rfl) (fun _ _ _ h => h) (Or.inl (by kernel_rfl)) (Or.inl ⟨by rfl, ?yg13⟩) ?_
      case yg13 => (intro wS _; go_simp <;> with_reducible rfl)
      try simp only [Act.put, List.setIfInBounds_toArray, List.set_cons_zero, List.set_cons_succ]
      refine wpG_one (i := 13) (o := { dst := none, op := Go.Op.store 61 (Go.Operand.tmp 2) (Go.Operand.tmp 19), type := 0, pos := "l7_filter.go:150", after := #[{ on := 11, ground := Go.Ground.data }, { on := 10, ground := Go.Ground.chain }, { on := 0, ground := Go.Ground.phase }, { on := 1, ground := Go.Ground.phase }, { on := 2, ground := Go.Ground.phase }, { on := 3, ground := Go.Ground.phase }, { on := 4, ground := Go.Ground.phase }, { on := 5, ground := Go.Ground.phase }, { on := 6, ground := Go.Ground.phase }, { on := 7, ground := Go.Ground.phase }, { on := 8, ground := Go.Ground.phase }, { on := 9, ground := Go.Ground.phase }, { on := 10, ground := Go.Ground.phase }, { on := 11, ground := Go.Ground.phase }, { on := 12, ground := Go.Ground.phase }], guard := none }) rfl (by kernel_rfl) (fun K hK => ?_)
      go_simp
      refine hK.out _ _ (Or.inl (by kernel_rfl)) (fun _ => ?_)
      clear hK K
      try simp only [Act.put, List.setIfInBounds_toArray, List.set_cons_zero, List.set_cons_succ]
      refine wpG_pure (i := 14) (oi := { dst := some 3, op := Go.Op.assign (Go.Operand.tmp 20), type := 4, pos := "l7_filter.go:150", after := #[{ on := 12, ground := Go.Ground.data }, { on := 13, ground := Go.Ground.chain }, { on := 0, ground := Go.Ground.phase }, { on := 1, ground := Go.Ground.phase }, { on := 2, ground := Go.Ground.phase }, { on := 3, ground := Go.Ground.phase }, { on := 4, ground := Go.Ground.phase }, { on := 5, ground := Go.Ground.phase }, { on := 6, ground := Go.Ground.phase }, { on := 7, ground := Go.Ground.phase }, { on := 8, ground := Go.Ground.phase }, { on := 9, ground := Go.Ground.phase }, { on := 10, ground := Go.Ground.phase }, { on := 11, ground := Go.Ground.phase }, { on := 12, ground := Go.Ground.phase }, { on := 13, ground := Go.Ground.phase }], guard := none }) (v := ?vg15) rfl (by kernel_rfl) (fun _ _ _ h => h) (Or.inl (by kernel_rfl)) (Or.inl ⟨by rfl, ?yg15⟩) ?_
      case yg15 => (intro wS _; go_simp <;> with_reducible rfl)
      try simp only [Act.put, List.setIfInBounds_toArray, List.set_cons_zero, List.set_cons_succ]
      refine wpG_done (by kernel_rfl) ?_
      have HB11 := Lib.hid ((HB2.out.trans (HBX.out.mono (by rw [HZZ.out]; omega))).setCell (p := ⟨w.heap.size + 1, 0, none⟩) (by simp) (.slice xa xn xc))
      have y11 := World.cell?_setCell_same w10 ⟨w.heap.size + 1, 0, none⟩ (.slice xa xn xc) e1
      have HO11 := Lib.hid (ownsRow_setCell_below HO8.out (a := ⟨w.heap.size + 1, 0, none⟩) (by rw [HZZ.out]; simp) (.slice xa xn xc))
      generalize hw11 : w10.setCell ⟨w.heap.size + 1, 0, none⟩ (.slice xa xn xc) = w11 at *
      clear e1 e2 y0
      go_wp2_with fail
      refine bodyPost_ret (v := .tuple #[.agg #[.slice xa xn xc], .bool r10]) (by simp [results, Try.results50, go_sem, y11]) rfl ?_
      by_cases h20 : n < 20
      · obtain ⟨⟨rfl, rfl, rfl⟩, rfl⟩ := HV1.out (by omega)
        rw [HYES.out h20]
        refine ⟨_, rfl, ?_, HB11.out⟩
        have := own_mono (base' := w.heap.size) HO11.out (by rw [HZZ.out]; omega)
        have e1 : (l ++ [(⟨8, 0, 0, ⟨#[]⟩, (n : Int) - 1, 0⟩ : Wn)]).length = n + 1 := by rw [List.length_append, HNL.out]; rfl
        rw [e1] at this
        simp only
        rw [e1]; exact this
      · obtain ⟨⟨rfl, rfl, rfl⟩, rfl⟩ := HV2.out (by omega)
        rw [HFULL.out h20]
        exact ⟨_, rfl, World.ownsRow_nil _ _ _ _, HB11.out⟩
    · skip
      go_simp
      first | (have HLT := Lib.hid (heap_alloc_new w7 (.cells #[.int .i64 8, .int .i64 0, .int .i64 0, .string ⟨#[]⟩, .int .i64 ((n : Int) - 1), .int .i64 0] 134)); replace HO7 := Lib.hid (HO7.out.alloc (.cells #[.int .i64 8, .int .i64 0, .int .i64 0, .string ⟨#[]⟩, .int .i64 ((n : Int) - 1), .int .i64 0] 134))) | (have HLT := Lib.hid (heap_alloc_new w3.drew (.cells #[.int .i64 8, .int .i64 0, .int .i64 0, .string ⟨#[]⟩, .int .i64 ((n : Int) - 1), .int .i64 0] 134)))
      replace HBX := Lib.hid (HBX.out.alloc HBX.out.size (.cells #[.int .i64 8, .int .i64 0, .int .i64 0, .string ⟨#[]⟩, .int .i64 ((n : Int) - 1), .int .i64 0] 134))
      refine hK.out _ _ (Or.inr ?khHeld16) (fun hHeld16S => ?_)
      case khHeld16 => exact HK1.out _ HBX.out
      have hHeld16 := hHeld16S.held (by kernel_rfl)
      clear hK K
      try simp only [Act.put, List.setIfInBounds_toArray, List.set_cons_zero, List.set_cons_succ]
      refine wpG_one (i := 2) (o := { dst := some 10, op := Go.Op.call { callee := Go.Callee.value (Go.Operand.func 111), args := #[Go.Operand.tmp 9], argTypes := #[59] }, type := 59, pos := "l7_filter.go:150", after := #[{ on := 1, ground := Go.Ground.data }], guard := none }) rfl (by kernel_rfl) (fun K hK => ?_)
      go_simp
      refine (HCL.out _ (HRZ.out _ HBX.out)).mono ?_
      rintro e w7 ⟨v7, rfl, ho7, hb7⟩
      have HO7 := Lib.hid (own_mono ho7 HBX.out.size)
      obtain ⟨va, vc, rfl⟩ := form_of_own ho7
      try (replace HLT := Lib.hid (heap_keep hb7 HLT.out))
      replace HBX := Lib.hid (rstep HBX.out hb7)
      clear ho7 hb7
      refine hK.out _ _ (Or.inr ?khHeld17) (fun hHeld17S => ?_)
      case khHeld17 => exact HK1.out _ HBX.out
      have hHeld17 := hHeld17S.held (by kernel_rfl)
      clear hK K
      try simp only [Act.put, List.setIfInBounds_toArray, List.set_cons_zero, List.set_cons_succ]
      refine wpG_one (i := 9) (o := { dst := some 17, op := Go.Op.call { callee := Go.Callee.builtin Go.Builtin.append, args := #[Go.Operand.tmp 10, Go.Operand.tmp 16], argTypes := #[59, 59] }, type := 59, pos := "l7_filter.go:150", after := #[{ on := 2, ground := Go.Ground.data }, { on := 8, ground := Go.Ground.data }, { on := 2, ground := Go.Ground.chain }], guard := none }) rfl (by kernel_rfl) (fun K hK => ?_)
      refine step_append_lies _ rfl (.tmp 10) (.tmp 16) 59 rfl wz.heap.size 134 i0 (.agg #[.int .i64 0, .int .i64 0, .int .i64 0, .string ByteArray.empty, .int .i64 0, .int .i64 0]) 6 56 Try.underlying59 hi hz0 hz1 hz2 rfl (by decide) _ n (wnsV l) rfl HO7.out _ 1 1 [.int .i64 8, .int .i64 0, .int .i64 0, .string ⟨#[]⟩, .int .i64 ((n : Int) - 1), .int .i64 0] rfl rfl (World.news_of_block HLT.out) (by simp [Value.oneCell']) (by omega) HM63 (by omega) HBX.out.size _ rfl ?_
      intro g8 c8 w8 hown hgrow _ _
      have HO8 := Lib.hid (own_wn (f := ⟨8, 0, 0, ⟨#[]⟩, (n : Int) - 1, 0⟩) HNL.out hown)
      replace HBX := Lib.hid (Below.grown HBX.out hgrow HBX.out.size (fun j hj => (HO7.out.lt j hj).1))
      clear hown hgrow HLT HO7
      refine hK.out _ _ (Or.inl (by kernel_rfl)) (fun _ => ?_)
      clear hK K
      try simp only [Act.put, List.setIfInBounds_toArray, List.set_cons_zero, List.set_cons_succ]
      refine wpG_one (i := 10) (o := { dst := some 18, op := Go.Op.call { callee := Go.Callee.value (Go.Operand.func 110), args := #[Go.Operand.tmp 17], argTypes := #[59] }, type := 78, pos := "l7_filter.go:150", after := #[{ on := 9, ground := Go.Ground.data }, { on := 9, ground := Go.Ground.chain }], guard := none }) rfl (by kernel_rfl) (fun K hK => ?_)
      go_simp
      refine (impl_filterOf _ (n + 1) c8 _ (by omega)).mono ?_
      rintro e w10 ⟨xa, xn, xc, r10, rfl, hb, hv1, hv2⟩
      have HV1 := Lib.hid hv1; have HV2 := Lib.hid hv2
      replace HO8 := Lib.hid (own_later HO8.out hb)
      replace HBX := Lib.hid (rstep HBX.out hb)
      obtain ⟨e1, e2⟩ := HK2.out _ HBX.out
      clear hb hv1 hv2
      refine hK.out _ _ (Or.inl (by kernel_rfl)) (fun _ => ?_)
      clear hK K
      try simp only [Act.put, List.setIfInBounds_toArray, List.set_cons_zero, List.set_cons_succ]
      refine wpG_pure (i := 11) (oi := { dst := some 19, op := Go.Op.extract (Go.Operand.tmp 18) 0, type := 61, pos := "l7_filter.go:150", after := #[{ on := 10, ground := Go.Ground.data }], guard := none }) (v := ?vg20) rfl (by kernel_rfl) (fun _ _ _ h => h) (Or.inl (by kernel_rfl)) (Or.inl ⟨by rfl, ?yg20⟩) ?_
      case yg20 => (intro wS _; go_simp <;> with_reducible rfl)
      try simp only [Act.put, List.setIfInBounds_toArray, List.set_cons_zero, List.set_cons_succ]
      refine wpG_pure (i := 12) (oi := { dst := some 20, op := Go.Op.extract (Go.Operand.tmp 18) 1, type := 4, pos := "l7_filter.go:150", after := #[{ on := 10, ground := Go.Ground.data }], guard := none }) (v := ?vg21) rfl (by kernel_rfl) (fun _ _ _ h => h) (Or.inl (by kernel_rfl)) (Or.inl ⟨by rfl, ?yg21⟩) ?_
      case yg21 => (intro wS _; go_simp <;> with_reducible rfl)
      try simp only [Act.put, List.setIfInBounds_toArray, List.set_cons_zero, List.set_cons_succ]
      refine wpG_one (i := 13) (o := { dst := none, op := Go.Op.store 61 (Go.Operand.tmp 2) (Go.Operand.tmp 19), type := 0, pos := "l7_filter.go:150", after := #[{ on := 11, ground := Go.Ground.data }, { on := 10, ground := Go.Ground.chain }, { on := 0, ground := Go.Ground.phase }, { on := 1, ground := Go.Ground.phase }, { on := 2, ground := Go.Ground.phase }, { on := 3, ground := Go.Ground.phase }, { on := 4, ground := Go.Ground.phase }, { on := 5, ground := Go.Ground.phase }, { on := 6, ground := Go.Ground.phase }, { on := 7, ground := Go.Ground.phase }, { on := 8, ground := Go.Ground.phase }, { on := 9, ground := Go.Ground.phase }, { on := 10, ground := Go.Ground.phase }, { on := 11, ground := Go.Ground.phase }, { on := 12, ground := Go.Ground.phase }], guard := none }) rfl (by kernel_rfl) (fun K hK => ?_)
      go_simp
      refine hK.out _ _ (Or.inl (by kernel_rfl)) (fun _ => ?_)
      clear hK K
      try simp only [Act.put, List.setIfInBounds_toArray, List.set_cons_zero, List.set_cons_succ]
      refine wpG_pure (i := 14) (oi := { dst := some 3, op := Go.Op.assign (Go.Operand.tmp 20), type := 4, pos := "l7_filter.go:150", after := #[{ on := 12, ground := Go.Ground.data }, { on := 13, ground := Go.Ground.chain }, { on := 0, ground := Go.Ground.phase }, { on := 1, ground := Go.Ground.phase }, { on := 2, ground := Go.Ground.phase }, { on := 3, ground := Go.Ground.phase }, { on := 4, ground := Go.Ground.phase }, { on := 5, ground := Go.Ground.phase }, { on := 6, ground := Go.Ground.phase }, { on := 7, ground := Go.Ground.phase }, { on := 8, ground := Go.Ground.phase }, { on := 9, ground := Go.Ground.phase }, { on := 10, ground := Go.Ground.phase }, { on := 11, ground := Go.Ground.phase }, { on := 12, ground := Go.Ground.phase }, { on := 13, ground := Go.Ground.phase }], guard := none }) (v := ?vg23) rfl (by kernel_rfl) (fun _ _ _ h => h) (Or.inl (by kernel_rfl)) (Or.inl ⟨by rfl, ?yg23⟩) ?_
      case yg23 => (intro wS _; go_simp <;> with_reducible rfl)
      try simp only [Act.put, List.setIfInBounds_toArray, List.set_cons_zero, List.set_cons_succ]
      refine wpG_done (by kernel_rfl) ?_
      have HB11 := Lib.hid ((HB2.out.trans (HBX.out.mono (by rw [HZZ.out]; omega))).setCell (p := ⟨w.heap.size + 1, 0, none⟩) (by simp) (.slice xa xn xc))
      have y11 := World.cell?_setCell_same w10 ⟨w.heap.size + 1, 0, none⟩ (.slice xa xn xc) e1
      have HO11 := Lib.hid (ownsRow_setCell_below HO8.out (a := ⟨w.heap.size + 1, 0, none⟩) (by rw [HZZ.out]; simp) (.slice xa xn xc))
      generalize hw11 : w10.setCell ⟨w.heap.size + 1, 0, none⟩ (.slice xa xn xc) = w11 at *
      clear e1 e2 y0
      go_wp2_with fail
      refine bodyPost_ret (v := .tuple #[.agg #[.slice xa xn xc], .bool r10]) (by simp [results, Try.results50, go_sem, y11]) rfl ?_
      by_cases h20 : n < 20
      · obtain ⟨⟨rfl, rfl, rfl⟩, rfl⟩ := HV1.out (by omega)
        rw [HYES.out h20]
        refine ⟨_, rfl, ?_, HB11.out⟩
        have := own_mono (base' := w.heap.size) HO11.out (by rw [HZZ.out]; omega)
        have e1 : (l ++ [(⟨8, 0, 0, ⟨#[]⟩, (n : Int) - 1, 0⟩ : Wn)]).length = n + 1 := by rw [List.length_append, HNL.out]; rfl
        rw [e1] at this
        simp only
        rw [e1]; exact this
      · obtain ⟨⟨rfl, rfl, rfl⟩, rfl⟩ := HV2.out (by omega)
        rw [HFULL.out h20]
        exact ⟨_, rfl, World.ownsRow_nil _ _ _ _, HB11.out⟩
end Go.Proofs.Ytlmgckijbamgpaa
