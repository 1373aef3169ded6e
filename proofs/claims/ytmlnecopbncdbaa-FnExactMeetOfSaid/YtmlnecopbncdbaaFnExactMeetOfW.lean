/- The walk of FnExactMeetOf: whatever the arguments, the call returns true and writes nothing that was there. -/
import Derived.Deep.RegionHeld3
import Derived.Test.YtmlnecopbncdbaaMtC
import Derived.Test.YtmlnecopbncdbaaHSchema
namespace Go.Proofs.Ytmlnecopbncdbaa.fnExactMeetOf
open Go.ChangeShapes Go.WideShapes Go.ChangeAt Go.RowKit
open Go.ChangeMaps (open_string shut_string)
set_option linter.unusedVariables false
set_option linter.unusedSimpArgs false

set_option maxHeartbeats 1000000 in
set_option maxRecDepth 100000 in
theorem walk (w : World) (v0 : Value) (a0 : (List (Int × ByteArray × Int × Bool × Int × Int))) (w0 : IsK kSchema (fun cs => .agg cs.toArray) w v0 a0) (v1 : Value) (a1 : (List (Int × ByteArray × Int × Bool × Int × Int))) (w1 : IsK kSchema (fun cs => .agg cs.toArray) w v1 a1) :
    Calls Try.prog 3 #[v0, v1] w fun e w' => e = .returned (.bool true) ∧ Below w.heap.size w w' := by
  obtain ⟨cs0, rfl, hr0⟩ := w0
  obtain ⟨cs1, rfl, hr1⟩ := w1
  obtain ⟨ea0_0, ecap0_0, rfl⟩ : ∃ ea0_0 ecap0_0, cs0 = [.slice ea0_0 a0.length ecap0_0] := by
    obtain ⟨ea0_0, ecap0_0, h, _⟩ := Schema_rd hr0
    exact ⟨ea0_0, ecap0_0, h⟩
  obtain ⟨ea1_0, ecap1_0, rfl⟩ : ∃ ea1_0 ecap1_0, cs1 = [.slice ea1_0 a1.length ecap1_0] := by
    obtain ⟨ea1_0, ecap1_0, h, _⟩ := Schema_rd hr1
    exact ⟨ea1_0, ecap1_0, h⟩
  have HR0 := Lib.hid hr0; clear hr0
  have HZ0 := Lib.hid (fun (lx : Int) (wx : World) (hb : Below w.heap.size w wx) (g0 : 0 ≤ lx) (g1 : lx ≤ 1048576) => sz_Schema lx (kSchema_ok.later HR0.out hb) g0 g1)
  have HR1 := Lib.hid hr1; clear hr1
  have HZ1 := Lib.hid (fun (lx : Int) (wx : World) (hb : Below w.heap.size w wx) (g0 : 0 ≤ lx) (g1 : lx ≤ 1048576) => sz_Schema lx (kSchema_ok.later HR1.out hb) g0 g1)
  have HB0 := Lib.hid (box2_start w (.cells #[.slice ea0_0 a0.length ecap0_0] 24) (.cells #[.slice ea1_0 a1.length ecap1_0] 24))
  by_cases gz0 : (kSchema.wt a0 : Int) ≤ 1048576
  case neg =>
    have GZ0 : szR (1048576) (kSchema.wt a0) = -1 := szR_not gz0
    go_enter Try.func3, Try.ntmps3
    go_wp2_with fail
    refine (HZ0.out (1048576) _ (((Below.refl _ _).alloc (Nat.le_refl _) _).alloc (by simp) _) (by omega) (by omega)).mono ?_
    rw [GZ0]
    rintro e v1 ⟨rfl, hb⟩
    have HV1 := Lib.hid (box2_step HB0.out hb); clear hb
    have ac0_0_v1 := box2_a HV1.out 0
    have ac1_0_v1 := box2_b HV1.out 0
    go_wp2_with fail
    go_ret
    exact ⟨rfl, (box2_below HV1.out)⟩
  by_cases gz1 : (kSchema.wt a1 : Int) ≤ 1048576 - (kSchema.wt a0 : Int)
  case neg =>
    have GZ0 : szR (1048576) (kSchema.wt a0) = 1048576 - (kSchema.wt a0 : Int) := szR_fit gz0
    have GZ1 : szR (1048576 - (kSchema.wt a0 : Int)) (kSchema.wt a1) = -1 := szR_not gz1
    go_enter Try.func3, Try.ntmps3
    go_wp2_with fail
    refine (HZ0.out (1048576) _ (((Below.refl _ _).alloc (Nat.le_refl _) _).alloc (by simp) _) (by omega) (by omega)).mono ?_
    rw [GZ0]
    rintro e v1 ⟨rfl, hb⟩
    have HV1 := Lib.hid (box2_step HB0.out hb); clear hb
    have ac0_0_v1 := box2_a HV1.out 0
    have ac1_0_v1 := box2_b HV1.out 0
    go_wp2_with fail
    refine (HZ1.out (1048576 - (kSchema.wt a0 : Int)) _ (box2_below HV1.out) (by omega) (by omega)).mono ?_
    rw [GZ1]
    rintro e v2 ⟨rfl, hb⟩
    have HV2 := Lib.hid (box2_step HV1.out hb); clear hb ac0_0_v1 ac1_0_v1
    have ac0_0_v2 := box2_a HV2.out 0
    have ac1_0_v2 := box2_b HV2.out 0
    go_wp2_with fail
    go_ret
    exact ⟨rfl, (box2_below HV2.out)⟩
  have GZ0 : szR (1048576) (kSchema.wt a0) = 1048576 - (kSchema.wt a0 : Int) := szR_fit gz0
  have GZ1 : szR (1048576 - (kSchema.wt a0 : Int)) (kSchema.wt a1) = 1048576 - (kSchema.wt a0 : Int) - (kSchema.wt a1 : Int) := szR_fit gz1
  have HT : Hid (kSchema.wt a0 + kSchema.wt a1 ≤ 1048576) := Lib.hid (by omega)
  have HCN := Lib.hid (R_MeetOf_ok a0 a1 HT.out)
  have HS := Lib.hid (fun (wx : World) (cx0 : List Value) (cx1 : List Value) (h0 : kSchema.rd wx.heap.size wx (cx0) a0) (h1 : kSchema.rd wx.heap.size wx (cx1) a1) => spec_MeetOf wx cx0 cx1 a0 a1 h0 h1 HT.out)
  have HI := Lib.hid (fun (wx : World) (cx0 : List Value) (cx1 : List Value) (h0 : kSchema.rd wx.heap.size wx (cx0) a0) (h1 : kSchema.rd wx.heap.size wx (cx1) a1) => impl_MeetOf wx cx0 cx1 a0 a1 h0 h1 HT.out)
  have HTO0 := Lib.hid (fun (wx : World) (hb : Below w.heap.size w wx) => to_Schema (kSchema_ok.later HR0.out hb) (by have := HT.out; omega))
  have HTO1 := Lib.hid (fun (wx : World) (hb : Below w.heap.size w wx) => to_Schema (kSchema_ok.later HR1.out hb) (by have := HT.out; omega))
  generalize hR : R_MeetOf a0 a1 = R at *
  clear hR
  obtain ⟨r0, r1⟩ := R
  go_enter Try.func3, Try.ntmps3
  go_wp2_with fail
  refine (HZ0.out (1048576) _ (((Below.refl _ _).alloc (Nat.le_refl _) _).alloc (by simp) _) (by omega) (by omega)).mono ?_
  rw [GZ0]
  rintro e v1 ⟨rfl, hb⟩
  have HV1 := Lib.hid (box2_step HB0.out hb); clear hb
  have ac0_0_v1 := box2_a HV1.out 0
  have ac1_0_v1 := box2_b HV1.out 0
  go_wp2_with fail
  refine (HZ1.out (1048576 - (kSchema.wt a0 : Int)) _ (box2_below HV1.out) (by omega) (by omega)).mono ?_
  rw [GZ1]
  rintro e v2 ⟨rfl, hb⟩
  have HV2 := Lib.hid (box2_step HV1.out hb); clear hb ac0_0_v1 ac1_0_v1
  have ac0_0_v2 := box2_a HV2.out 0
  have ac1_0_v2 := box2_b HV2.out 0
  go_wp2_with fail
  have c_1 : v2.cell? ⟨w.heap.size, 0, none⟩ = some (.slice ea0_0 a0.length ecap0_0) := ac0_0_v2; clear ac0_0_v2
  have c_2 : v2.cell? ⟨w.heap.size + 1, 0, none⟩ = some (.slice ea1_0 a1.length ecap1_0) := ac1_0_v2; clear ac1_0_v2
  have hz_3 : w.heap.size + 2 ≤ v2.heap.size := by have := (HV2.out).size; first | omega | (simp at this; omega)
  go_wp2_with fail
  go_cut [6, 7] (fun s6 s7 wx => ∃ (B : Nat) (ec0 : Option Addr) (cc0 : Nat), s6 = .pointer (some ⟨B, 0, none⟩) ∧ s7 = .bool r1 ∧ Hid (wx.cell? ⟨B, 0, none⟩ = some (.slice ec0 r0.length cc0) ∧ kSchema.rd wx.heap.size wx [.slice ec0 r0.length cc0] r0 ∧ Below v2.heap.size v2 wx ∧ v2.heap.size ≤ B ∧ B < wx.heap.size))
  case first =>
    have HBASE := Lib.hid (Below.refl v2.heap.size v2)
    have hb_4 : Below v2.heap.size v2 v2.drew := (Below.refl _ _).drew
    have hz_5 : v2.heap.size ≤ v2.heap.size := by have := (hb_4).size; first | omega | (simp at this; omega)
    have HB_6 := Lib.hid (box2_step HV2.out hb_4)
    have hz_7 : w.heap.size + 2 ≤ v2.heap.size := Nat.le_trans hz_3 hz_5
    have c_8 : v2.drew.cell? ⟨w.heap.size, 0, none⟩ = some (.slice ea0_0 a0.length ecap0_0) := below_later (hb_4) c_1; clear c_1
    have c_9 : v2.drew.cell? ⟨w.heap.size + 1, 0, none⟩ = some (.slice ea1_0 a1.length ecap1_0) := below_later (hb_4) c_2; clear c_2
    have HBASE_10 := Lib.hid (rstep HBASE.out hb_4); clear hb_4
    refine wp_region_G [3] (fun w' => w'.cell? ⟨w.heap.size, 0, none⟩ = some (.slice ea0_0 a0.length ecap0_0) ∧ w'.cell? ⟨w.heap.size + 1, 0, none⟩ = some (.slice ea1_0 a1.length ecap1_0)) (by kernel_rfl) ?_ (fun hHeld => ?_)
    · exact ⟨c_8, c_9⟩
    refine wpG_load (i := 0) (oi := { dst := some 28, op := Go.Op.load 24 (Go.Operand.tmp 2), type := 24, pos := "exact.go:5313", after := #[], guard := none }) (v := ?vg90001) [[3, 1, 0]] rfl (by kernel_rfl) (fun _ _ _ h => h) hHeld (Or.inl ⟨by rfl, ?yg90001⟩) ?_
    case yg90001 => (intro wS hSw; (try dsimp only at hSw); go_simp <;> with_reducible rfl)
    try simp only [Act.put, List.setIfInBounds_toArray, List.set_cons_zero, List.set_cons_succ]
    refine wpG_load (i := 2) (oi := { dst := some 30, op := Go.Op.load 24 (Go.Operand.tmp 3), type := 24, pos := "exact.go:5313", after := #[], guard := none }) (v := ?vg90002) [[3, 2]] rfl (by kernel_rfl) (fun _ _ _ h => h) hHeld (Or.inl ⟨by rfl, ?yg90002⟩) ?_
    case yg90002 => (intro wS hSw; (try dsimp only at hSw); go_simp <;> with_reducible rfl)
    try simp only [Act.put, List.setIfInBounds_toArray, List.set_cons_zero, List.set_cons_succ]
    refine wpG_two (i := 1) (j := 8) (o := { dst := some 29, op := Go.Op.call { callee := Go.Callee.value (Go.Operand.func 8), args := #[Go.Operand.tmp 28], argTypes := #[24] }, type := 28, pos := "exact.go:5313", after := #[{ on := 0, ground := Go.Ground.data }], guard := none }) (o' := { dst := some 6, op := Go.Op.alloc 28, type := 0, pos := "exact.go:5313", after := #[], guard := none }) rfl rfl (by kernel_rfl) (fun K hK => ?_) (fun K hK => ?_)
    · skip
      go_simp
      refine (HTO0.out _ (box2_below HB_6.out)).mono ?_
      rintro e w_1 ⟨cs_11, fp_11, he, ho, hnd, hge, hb⟩
      have hrd := kSchema_ok.ord ho (B := w_1.heap.size) (kSchema_ok.olt ho)
      obtain ⟨ea0_11, ecap0_11, rfl, _⟩ := Schema_rd hrd
      change e = .returned (.agg #[.slice ea0_11 a0.length ecap0_11]) at he
      subst he
      have hrd2 := kSchema_ok.ord ho (B := w_1.heap.size) (kSchema_ok.olt ho)
      have OW_12 := Lib.hid ho; have HN_15 := Lib.hid hnd
      have HL_13 : Hid (∀ b ∈ fp_11, v2.heap.size ≤ b) := Lib.hid fun b hm => by have := hge b hm; first | omega | (simp at this; omega)
      have HH_14 : Hid (∀ b ∈ fp_11, b < w_1.heap.size) := Lib.hid (kSchema_ok.olt ho)
      have RD_16 := Lib.hid hrd2; clear ho hnd hge hrd2 hrd
      have hb_17 := hb; clear hb
      have hz_18 : v2.heap.size ≤ w_1.heap.size := by have := (hb_17).size; first | omega | (simp at this; omega)
      have HB_19 := Lib.hid (box2_step HB_6.out hb_17)
      have hz_20 : w.heap.size + 2 ≤ w_1.heap.size := Nat.le_trans hz_7 hz_18
      have c_21 : w_1.cell? ⟨w.heap.size, 0, none⟩ = some (.slice ea0_0 a0.length ecap0_0) := below_later (hb_17) c_8; clear c_8
      have c_22 : w_1.cell? ⟨w.heap.size + 1, 0, none⟩ = some (.slice ea1_0 a1.length ecap1_0) := below_later (hb_17) c_9; clear c_9
      have HBLAST := Lib.hid hb_17
      have HQ := Lib.hid hb_17; clear hb_17 HQ
      have hz_23 : w_1.heap.size ≤ w_1.heap.size := Nat.le_refl _
      have HBASE_24 := Lib.hid (rstep HBASE_10.out HBLAST.out); clear HBLAST
      refine hK.out _ _ (Or.inr ?khHeld90003) (fun hHeld90003S => ?_)
      case khHeld90003 => exact ⟨c_21, c_22⟩
      have hHeld90003 := hHeld90003S.held (by kernel_rfl)
      clear hK K
      try simp only [Act.put, List.setIfInBounds_toArray, List.set_cons_zero, List.set_cons_succ]
      refine wpG_two (i := 3) (j := 8) (o := { dst := some 31, op := Go.Op.call { callee := Go.Callee.value (Go.Operand.func 8), args := #[Go.Operand.tmp 30], argTypes := #[24] }, type := 28, pos := "exact.go:5313", after := #[{ on := 2, ground := Go.Ground.data }, { on := 1, ground := Go.Ground.chain }], guard := none }) (o' := { dst := some 6, op := Go.Op.alloc 28, type := 0, pos := "exact.go:5313", after := #[], guard := none }) rfl rfl (by kernel_rfl) (fun K hK => ?_) (fun K hK => ?_)
      · skip
        go_simp
        refine (HTO1.out _ (box2_below HB_19.out)).mono ?_
        rintro e w_2 ⟨cs_25, fp_25, he, ho, hnd, hge, hb⟩
        have hrd := kSchema_ok.ord ho (B := w_2.heap.size) (kSchema_ok.olt ho)
        obtain ⟨ea0_25, ecap0_25, rfl, _⟩ := Schema_rd hrd
        change e = .returned (.agg #[.slice ea0_25 a1.length ecap0_25]) at he
        subst he
        have hrd2 := kSchema_ok.ord ho (B := w_2.heap.size) (kSchema_ok.olt ho)
        have OW_26 := Lib.hid ho; have HN_29 := Lib.hid hnd
        have HL_27 : Hid (∀ b ∈ fp_25, w_1.heap.size ≤ b) := Lib.hid fun b hm => by have := hge b hm; first | omega | (simp at this; omega)
        have HH_28 : Hid (∀ b ∈ fp_25, b < w_2.heap.size) := Lib.hid (kSchema_ok.olt ho)
        have RD_30 := Lib.hid hrd2; clear ho hnd hge hrd2 hrd
        have hb_31 := hb; clear hb
        have hz_32 : w_1.heap.size ≤ w_2.heap.size := by have := (hb_31).size; first | omega | (simp at this; omega)
        have HB_33 := Lib.hid (box2_step HB_19.out hb_31)
        have hz_34 : w.heap.size + 2 ≤ w_2.heap.size := Nat.le_trans hz_20 hz_32
        have c_35 : w_2.cell? ⟨w.heap.size, 0, none⟩ = some (.slice ea0_0 a0.length ecap0_0) := below_later (hb_31) c_21; clear c_21
        have c_36 : w_2.cell? ⟨w.heap.size + 1, 0, none⟩ = some (.slice ea1_0 a1.length ecap1_0) := below_later (hb_31) c_22; clear c_22
        have RD_37 := Lib.hid (kSchema_ok.rbelow RD_16.out (Below.mono (hb_31) (by first | omega | (simp; done) | (simp; omega)))); clear RD_16
        have hz_38 : w_1.heap.size ≤ w_2.heap.size := Nat.le_trans hz_23 hz_32
        have HBLAST := Lib.hid hb_31
        have HQ := Lib.hid hb_31; clear hb_31 HQ
        have hz_39 : w_2.heap.size ≤ w_2.heap.size := Nat.le_refl _
        have HBASE_40 := Lib.hid (rstep HBASE_24.out HBLAST.out); clear HBLAST
        refine hK.out _ _ (Or.inl (by kernel_rfl)) (fun _ => ?_)
        clear hK K
        try simp only [Act.put, List.setIfInBounds_toArray, List.set_cons_zero, List.set_cons_succ]
        refine wpG_two (i := 4) (j := 8) (o := { dst := some 32, op := Go.Op.call { callee := Go.Callee.value (Go.Operand.func 7), args := #[Go.Operand.tmp 29, Go.Operand.tmp 31], argTypes := #[28, 28] }, type := 29, pos := "exact.go:5313", after := #[{ on := 1, ground := Go.Ground.data }, { on := 3, ground := Go.Ground.data }, { on := 3, ground := Go.Ground.chain }], guard := none }) (o' := { dst := some 6, op := Go.Op.alloc 28, type := 0, pos := "exact.go:5313", after := #[], guard := none }) rfl rfl (by kernel_rfl) (fun K hK => ?_) (fun K hK => ?_)
        · skip
          go_simp
          refine (HS.out _ [.slice ea0_11 a0.length ecap0_11] [.slice ea0_25 a1.length ecap0_25] (kSchema_ok.rmono RD_37.out (by first | omega | (simp; done) | (simp; omega))) (kSchema_ok.rmono RD_30.out (by first | omega | (simp; done) | (simp; omega)))).mono ?_
          rintro e w_3 ⟨cs_41, fp_41, he, ho, hnd, hge, hb⟩
          have hrd := kSchema_ok.ord ho (B := w_3.heap.size) (kSchema_ok.olt ho)
          obtain ⟨ea0_41, ecap0_41, rfl⟩ : ∃ ea0_41 ecap0_41, cs_41 = [.slice ea0_41 r0.length ecap0_41] := by
            obtain ⟨ea0_41, ecap0_41, h, _⟩ := Schema_rd hrd
            exact ⟨ea0_41, ecap0_41, h⟩
          change e = .returned (.tuple #[(.agg #[.slice ea0_41 r0.length ecap0_41]), (.bool r1)]) at he
          subst he
          have RD_42 := Lib.hid hrd; clear hrd
          have OW_43 := Lib.hid ho; have HN_46 := Lib.hid hnd
          have HL_44 : Hid (∀ b ∈ fp_41, w_2.heap.size ≤ b) := Lib.hid fun b hm => by have := hge b hm; first | omega | (simp at this; omega)
          have HH_45 : Hid (∀ b ∈ fp_41, b < w_3.heap.size) := Lib.hid (kSchema_ok.olt ho)
          clear ho hnd hge
          have hb_47 := hb; clear hb
          have hz_48 : w_2.heap.size ≤ w_3.heap.size := by have := (hb_47).size; first | omega | (simp at this; omega)
          have HB_49 := Lib.hid (box2_step HB_33.out hb_47)
          have hz_50 : w.heap.size + 2 ≤ w_3.heap.size := Nat.le_trans hz_34 hz_48
          have c_51 : w_3.cell? ⟨w.heap.size, 0, none⟩ = some (.slice ea0_0 a0.length ecap0_0) := below_later (hb_47) c_35; clear c_35
          have c_52 : w_3.cell? ⟨w.heap.size + 1, 0, none⟩ = some (.slice ea1_0 a1.length ecap1_0) := below_later (hb_47) c_36; clear c_36
          have RD_53 := Lib.hid (kSchema_ok.rbelow RD_37.out (Below.mono (hb_47) (by first | omega | (simp; done) | (simp; omega)))); clear RD_37
          have hz_54 : w_1.heap.size ≤ w_3.heap.size := Nat.le_trans hz_38 hz_48
          have RD_55 := Lib.hid (kSchema_ok.rbelow RD_30.out (Below.mono (hb_47) (by first | omega | (simp; done) | (simp; omega)))); clear RD_30
          have hz_56 : w_2.heap.size ≤ w_3.heap.size := Nat.le_trans hz_39 hz_48
          have HBLAST := Lib.hid hb_47
          clear hb_47
          have hz_57 : w_3.heap.size ≤ w_3.heap.size := Nat.le_refl _
          have HBASE_58 := Lib.hid (rstep HBASE_40.out HBLAST.out); clear HBLAST
          refine hK.out _ _ (Or.inl (by kernel_rfl)) (fun _ => ?_)
          clear hK K
          try simp only [Act.put, List.setIfInBounds_toArray, List.set_cons_zero, List.set_cons_succ]
          refine wpG_pure (i := 5) (oi := { dst := some 27, op := Go.Op.move (Go.Operand.tmp 32), type := 29, pos := "exact.go:5313", after := #[{ on := 4, ground := Go.Ground.data }], guard := none }) (v := ?vg90006) rfl (by kernel_rfl) (fun _ _ _ h => h) (Or.inl (by kernel_rfl)) (Or.inl ⟨by rfl, ?yg90006⟩) ?_
          case yg90006 => (intro wS _; go_simp <;> with_reducible rfl)
          try simp only [Act.put, List.setIfInBounds_toArray, List.set_cons_zero, List.set_cons_succ]
          refine wpG_pure (i := 6) (oi := { dst := some 33, op := Go.Op.extract (Go.Operand.tmp 27) 0, type := 28, pos := "exact.go:5313", after := #[{ on := 5, ground := Go.Ground.data }], guard := none }) (v := ?vg90007) rfl (by kernel_rfl) (fun _ _ _ h => h) (Or.inl (by kernel_rfl)) (Or.inl ⟨by rfl, ?yg90007⟩) ?_
          case yg90007 => (intro wS _; go_simp <;> with_reducible rfl)
          try simp only [Act.put, List.setIfInBounds_toArray, List.set_cons_zero, List.set_cons_succ]
          refine wpG_pure (i := 7) (oi := { dst := some 34, op := Go.Op.extract (Go.Operand.tmp 27) 1, type := 4, pos := "exact.go:5313", after := #[{ on := 5, ground := Go.Ground.data }, { on := 9, ground := Go.Ground.gcOnly Go.Departure.lateStores }], guard := none }) (v := ?vg90008) rfl (by kernel_rfl) (fun _ _ _ h => h) (Or.inl (by kernel_rfl)) (Or.inl ⟨by rfl, ?yg90008⟩) ?_
          case yg90008 => (intro wS _; go_simp <;> with_reducible rfl)
          try simp only [Act.put, List.setIfInBounds_toArray, List.set_cons_zero, List.set_cons_succ]
          refine wpG_one (i := 8) (o := { dst := some 6, op := Go.Op.alloc 28, type := 0, pos := "exact.go:5313", after := #[], guard := none }) rfl (by kernel_rfl) (fun K hK => ?_)
          go_simp
          have hb_59 : Below w_3.heap.size w_3 (w_3.alloc (.cells #[Value.slice none 0 0] 28)) := (Below.refl _ _).alloc (Nat.le_refl _) _
          have hz_60 : w_3.heap.size ≤ w_3.heap.size + 1 := by have := (hb_59).size; first | omega | (simp at this; omega)
          have HB_61 := Lib.hid (box2_step HB_49.out hb_59)
          have hz_62 : w.heap.size + 2 ≤ w_3.heap.size + 1 := Nat.le_trans hz_50 hz_60
          have c_63 : (w_3.alloc (.cells #[Value.slice none 0 0] 28)).cell? ⟨w.heap.size, 0, none⟩ = some (.slice ea0_0 a0.length ecap0_0) := below_later (hb_59) c_51; clear c_51
          have c_64 : (w_3.alloc (.cells #[Value.slice none 0 0] 28)).cell? ⟨w.heap.size + 1, 0, none⟩ = some (.slice ea1_0 a1.length ecap1_0) := below_later (hb_59) c_52; clear c_52
          have RD_65 := Lib.hid (kSchema_ok.rbelow RD_53.out (Below.mono (hb_59) (by first | omega | (simp; done) | (simp; omega)))); clear RD_53
          have hz_66 : w_1.heap.size ≤ w_3.heap.size + 1 := Nat.le_trans hz_54 hz_60
          have RD_67 := Lib.hid (kSchema_ok.rbelow RD_55.out (Below.mono (hb_59) (by first | omega | (simp; done) | (simp; omega)))); clear RD_55
          have hz_68 : w_2.heap.size ≤ w_3.heap.size + 1 := Nat.le_trans hz_56 hz_60
          have OW_69 := Lib.hid (kSchema_ok.oframe OW_43.out (w' := (w_3.alloc (.cells #[Value.slice none 0 0] 28))) fun b hm => (hb_59).block b (kSchema_ok.olt OW_43.out b hm)); clear OW_43
          have hz_70 : w_3.heap.size ≤ w_3.heap.size + 1 := Nat.le_trans hz_57 hz_60
          have HBASE_71 := Lib.hid (rstep HBASE_58.out hb_59); clear hb_59
          have c_72 : (w_3.alloc (.cells #[Value.slice none 0 0] 28)).cell? ⟨w_3.heap.size, 0, none⟩ = some (Value.slice none 0 0) := by go_simp
          have f_73 : (w_3.alloc (.cells #[Value.slice none 0 0] 28)).frozen? ⟨w_3.heap.size, 0, none⟩ = false := by go_simp
          refine hK.out _ _ (Or.inl (by kernel_rfl)) (fun _ => ?_)
          clear hK K
          try simp only [Act.put, List.setIfInBounds_toArray, List.set_cons_zero, List.set_cons_succ]
          refine wpG_one (i := 9) (o := { dst := none, op := Go.Op.store 28 (Go.Operand.tmp 6) (Go.Operand.tmp 33), type := 0, pos := "exact.go:5313", after := #[{ on := 8, ground := Go.Ground.data }, { on := 6, ground := Go.Ground.data }, { on := 4, ground := Go.Ground.chain }, { on := 0, ground := Go.Ground.phase }, { on := 1, ground := Go.Ground.phase }, { on := 2, ground := Go.Ground.phase }, { on := 3, ground := Go.Ground.phase }, { on := 4, ground := Go.Ground.phase }, { on := 5, ground := Go.Ground.phase }, { on := 6, ground := Go.Ground.phase }, { on := 7, ground := Go.Ground.textOnly Go.Departure.lateStores }, { on := 8, ground := Go.Ground.phase }], guard := none }) rfl (by kernel_rfl) (fun K hK => ?_)
          go_simp
          refine hK.out _ _ (Or.inl (by kernel_rfl)) (fun _ => ?_)
          clear hK K
          try simp only [Act.put, List.setIfInBounds_toArray, List.set_cons_zero, List.set_cons_succ]
          refine wpG_pure (i := 10) (oi := { dst := some 7, op := Go.Op.assign (Go.Operand.tmp 34), type := 4, pos := "exact.go:5313", after := #[{ on := 7, ground := Go.Ground.data }, { on := 9, ground := Go.Ground.chain }, { on := 0, ground := Go.Ground.phase }, { on := 1, ground := Go.Ground.phase }, { on := 2, ground := Go.Ground.phase }, { on := 3, ground := Go.Ground.phase }, { on := 4, ground := Go.Ground.phase }, { on := 5, ground := Go.Ground.phase }, { on := 6, ground := Go.Ground.phase }, { on := 7, ground := Go.Ground.phase }, { on := 8, ground := Go.Ground.phase }, { on := 9, ground := Go.Ground.phase }], guard := none }) (v := ?vg90011) rfl (by kernel_rfl) (fun _ _ _ h => h) (Or.inl (by kernel_rfl)) (Or.inl ⟨by rfl, ?yg90011⟩) ?_
          case yg90011 => (intro wS _; go_simp <;> with_reducible rfl)
          try simp only [Act.put, List.setIfInBounds_toArray, List.set_cons_zero, List.set_cons_succ]
          refine wpG_done (by kernel_rfl) ?_
          go_wp2_with fail
          go_meet
          have hsame : ∀ b, b < w_3.heap.size → (w_3.alloc (.cells #[.slice ea0_41 r0.length ecap0_41] 28)).heap[b]? = w_3.heap[b]? := fun b hb => Below.block ((Below.refl _ _).alloc (Nat.le_refl _) _) b hb
          have hrdf : kSchema.rd (w_3.alloc (.cells #[.slice ea0_41 r0.length ecap0_41] 28)).heap.size (w_3.alloc (.cells #[.slice ea0_41 r0.length ecap0_41] 28)) [.slice ea0_41 r0.length ecap0_41] r0 := kSchema_ok.ord (kSchema_ok.oframe OW_69.out (fun b hm => (Below.block ((Below.refl w_3.heap.size w_3).alloc (Nat.le_refl _) _ : Below w_3.heap.size w_3 (w_3.alloc (.cells #[.slice ea0_41 r0.length ecap0_41] 28))) b (by have := HH_45.out b hm; first | omega | (simp; done) | (simp; omega))).trans (Below.block ((Below.refl w_3.heap.size w_3).alloc (Nat.le_refl _) _ : Below w_3.heap.size w_3 (w_3.alloc (.cells #[Value.slice none 0 0] 28))) b (by have := HH_45.out b hm; first | omega | (simp; done) | (simp; omega))).symm)) (fun b hm => by have := HH_45.out b hm; first | omega | (simp; done) | (simp; omega))
          have hbf : Below v2.heap.size v2 (w_3.alloc (.cells #[.slice ea0_41 r0.length ecap0_41] 28)) := rstep HBASE_58.out ((Below.refl _ _).alloc (Nat.le_refl _) _)
          exact ⟨_, _, _, rfl, rfl, Lib.hid ⟨by go_simp, hrdf, hbf, by first | omega | (simp; done) | (simp; omega), by first | omega | (simp; done) | (simp; omega)⟩⟩
        · skip
          go_simp
          have hb_74 : Below w_2.heap.size w_2 (w_2.alloc (.cells #[Value.slice none 0 0] 28)) := (Below.refl _ _).alloc (Nat.le_refl _) _
          have hz_75 : w_2.heap.size ≤ w_2.heap.size + 1 := by have := (hb_74).size; first | omega | (simp at this; omega)
          have HB_76 := Lib.hid (box2_step HB_33.out hb_74)
          have hz_77 : w.heap.size + 2 ≤ w_2.heap.size + 1 := Nat.le_trans hz_34 hz_75
          have c_78 : (w_2.alloc (.cells #[Value.slice none 0 0] 28)).cell? ⟨w.heap.size, 0, none⟩ = some (.slice ea0_0 a0.length ecap0_0) := below_later (hb_74) c_35; clear c_35
          have c_79 : (w_2.alloc (.cells #[Value.slice none 0 0] 28)).cell? ⟨w.heap.size + 1, 0, none⟩ = some (.slice ea1_0 a1.length ecap1_0) := below_later (hb_74) c_36; clear c_36
          have RD_80 := Lib.hid (kSchema_ok.rbelow RD_37.out (Below.mono (hb_74) (by first | omega | (simp; done) | (simp; omega)))); clear RD_37
          have hz_81 : w_1.heap.size ≤ w_2.heap.size + 1 := Nat.le_trans hz_38 hz_75
          have RD_82 := Lib.hid (kSchema_ok.rbelow RD_30.out (Below.mono (hb_74) (by first | omega | (simp; done) | (simp; omega)))); clear RD_30
          have hz_83 : w_2.heap.size ≤ w_2.heap.size + 1 := Nat.le_trans hz_39 hz_75
          have HBASE_84 := Lib.hid (rstep HBASE_40.out hb_74); clear hb_74
          have c_85 : (w_2.alloc (.cells #[Value.slice none 0 0] 28)).cell? ⟨w_2.heap.size, 0, none⟩ = some (Value.slice none 0 0) := by go_simp
          have f_86 : (w_2.alloc (.cells #[Value.slice none 0 0] 28)).frozen? ⟨w_2.heap.size, 0, none⟩ = false := by go_simp
          refine hK.out _ _ (Or.inl (by kernel_rfl)) (fun _ => ?_)
          clear hK K
          try simp only [Act.put, List.setIfInBounds_toArray, List.set_cons_zero, List.set_cons_succ]
          refine wpG_one (i := 4) (o := { dst := some 32, op := Go.Op.call { callee := Go.Callee.value (Go.Operand.func 7), args := #[Go.Operand.tmp 29, Go.Operand.tmp 31], argTypes := #[28, 28] }, type := 29, pos := "exact.go:5313", after := #[{ on := 1, ground := Go.Ground.data }, { on := 3, ground := Go.Ground.data }, { on := 3, ground := Go.Ground.chain }], guard := none }) rfl (by kernel_rfl) (fun K hK => ?_)
          go_simp
          refine (HS.out _ [.slice ea0_11 a0.length ecap0_11] [.slice ea0_25 a1.length ecap0_25] (kSchema_ok.rmono RD_80.out (by first | omega | (simp; done) | (simp; omega))) (kSchema_ok.rmono RD_82.out (by first | omega | (simp; done) | (simp; omega)))).mono ?_
          rintro e w_4 ⟨cs_87, fp_87, he, ho, hnd, hge, hb⟩
          have hrd := kSchema_ok.ord ho (B := w_4.heap.size) (kSchema_ok.olt ho)
          obtain ⟨ea0_87, ecap0_87, rfl⟩ : ∃ ea0_87 ecap0_87, cs_87 = [.slice ea0_87 r0.length ecap0_87] := by
            obtain ⟨ea0_87, ecap0_87, h, _⟩ := Schema_rd hrd
            exact ⟨ea0_87, ecap0_87, h⟩
          change e = .returned (.tuple #[(.agg #[.slice ea0_87 r0.length ecap0_87]), (.bool r1)]) at he
          subst he
          have RD_88 := Lib.hid hrd; clear hrd
          have OW_89 := Lib.hid ho; have HN_92 := Lib.hid hnd
          have HL_90 : Hid (∀ b ∈ fp_87, w_2.heap.size + 1 ≤ b) := Lib.hid fun b hm => by have := hge b hm; first | omega | (simp at this; omega)
          have HH_91 : Hid (∀ b ∈ fp_87, b < w_4.heap.size) := Lib.hid (kSchema_ok.olt ho)
          clear ho hnd hge
          have hb_93 := hb; clear hb
          have hz_94 : w_2.heap.size + 1 ≤ w_4.heap.size := by have := (hb_93).size; first | omega | (simp at this; omega)
          have HB_95 := Lib.hid (box2_step HB_76.out hb_93)
          have hz_96 : w.heap.size + 2 ≤ w_4.heap.size := Nat.le_trans hz_77 hz_94
          have c_97 : w_4.cell? ⟨w.heap.size, 0, none⟩ = some (.slice ea0_0 a0.length ecap0_0) := below_later (hb_93) c_78; clear c_78
          have c_98 : w_4.cell? ⟨w.heap.size + 1, 0, none⟩ = some (.slice ea1_0 a1.length ecap1_0) := below_later (hb_93) c_79; clear c_79
          have c_99 : w_4.cell? ⟨w_2.heap.size, 0, none⟩ = some (Value.slice none 0 0) := below_later (hb_93) c_85; clear c_85
          have f_100 : w_4.frozen? ⟨w_2.heap.size, 0, none⟩ = false := (Below.frozen (hb_93) (p := ⟨w_2.heap.size, 0, none⟩) (by show w_2.heap.size < _; first | omega | (simp; done) | (simp; omega))).trans f_86; clear f_86
          have RD_101 := Lib.hid (kSchema_ok.rbelow RD_80.out (Below.mono (hb_93) (by first | omega | (simp; done) | (simp; omega)))); clear RD_80
          have hz_102 : w_1.heap.size ≤ w_4.heap.size := Nat.le_trans hz_81 hz_94
          have RD_103 := Lib.hid (kSchema_ok.rbelow RD_82.out (Below.mono (hb_93) (by first | omega | (simp; done) | (simp; omega)))); clear RD_82
          have hz_104 : w_2.heap.size ≤ w_4.heap.size := Nat.le_trans hz_83 hz_94
          have HBLAST := Lib.hid hb_93
          clear hb_93
          have hz_105 : w_4.heap.size ≤ w_4.heap.size := Nat.le_refl _
          have HBASE_106 := Lib.hid (rstep HBASE_84.out HBLAST.out); clear HBLAST
          refine hK.out _ _ (Or.inl (by kernel_rfl)) (fun _ => ?_)
          clear hK K
          try simp only [Act.put, List.setIfInBounds_toArray, List.set_cons_zero, List.set_cons_succ]
          refine wpG_pure (i := 5) (oi := { dst := some 27, op := Go.Op.move (Go.Operand.tmp 32), type := 29, pos := "exact.go:5313", after := #[{ on := 4, ground := Go.Ground.data }], guard := none }) (v := ?vg90014) rfl (by kernel_rfl) (fun _ _ _ h => h) (Or.inl (by kernel_rfl)) (Or.inl ⟨by rfl, ?yg90014⟩) ?_
          case yg90014 => (intro wS _; go_simp <;> with_reducible rfl)
          try simp only [Act.put, List.setIfInBounds_toArray, List.set_cons_zero, List.set_cons_succ]
          refine wpG_pure (i := 6) (oi := { dst := some 33, op := Go.Op.extract (Go.Operand.tmp 27) 0, type := 28, pos := "exact.go:5313", after := #[{ on := 5, ground := Go.Ground.data }], guard := none }) (v := ?vg90015) rfl (by kernel_rfl) (fun _ _ _ h => h) (Or.inl (by kernel_rfl)) (Or.inl ⟨by rfl, ?yg90015⟩) ?_
          case yg90015 => (intro wS _; go_simp <;> with_reducible rfl)
          try simp only [Act.put, List.setIfInBounds_toArray, List.set_cons_zero, List.set_cons_succ]
          refine wpG_pure (i := 7) (oi := { dst := some 34, op := Go.Op.extract (Go.Operand.tmp 27) 1, type := 4, pos := "exact.go:5313", after := #[{ on := 5, ground := Go.Ground.data }, { on := 9, ground := Go.Ground.gcOnly Go.Departure.lateStores }], guard := none }) (v := ?vg90016) rfl (by kernel_rfl) (fun _ _ _ h => h) (Or.inl (by kernel_rfl)) (Or.inl ⟨by rfl, ?yg90016⟩) ?_
          case yg90016 => (intro wS _; go_simp <;> with_reducible rfl)
          try simp only [Act.put, List.setIfInBounds_toArray, List.set_cons_zero, List.set_cons_succ]
          refine wpG_one (i := 9) (o := { dst := none, op := Go.Op.store 28 (Go.Operand.tmp 6) (Go.Operand.tmp 33), type := 0, pos := "exact.go:5313", after := #[{ on := 8, ground := Go.Ground.data }, { on := 6, ground := Go.Ground.data }, { on := 4, ground := Go.Ground.chain }, { on := 0, ground := Go.Ground.phase }, { on := 1, ground := Go.Ground.phase }, { on := 2, ground := Go.Ground.phase }, { on := 3, ground := Go.Ground.phase }, { on := 4, ground := Go.Ground.phase }, { on := 5, ground := Go.Ground.phase }, { on := 6, ground := Go.Ground.phase }, { on := 7, ground := Go.Ground.textOnly Go.Departure.lateStores }, { on := 8, ground := Go.Ground.phase }], guard := none }) rfl (by kernel_rfl) (fun K hK => ?_)
          go_simp
          refine hK.out _ _ (Or.inl (by kernel_rfl)) (fun _ => ?_)
          clear hK K
          try simp only [Act.put, List.setIfInBounds_toArray, List.set_cons_zero, List.set_cons_succ]
          refine wpG_pure (i := 10) (oi := { dst := some 7, op := Go.Op.assign (Go.Operand.tmp 34), type := 4, pos := "exact.go:5313", after := #[{ on := 7, ground := Go.Ground.data }, { on := 9, ground := Go.Ground.chain }, { on := 0, ground := Go.Ground.phase }, { on := 1, ground := Go.Ground.phase }, { on := 2, ground := Go.Ground.phase }, { on := 3, ground := Go.Ground.phase }, { on := 4, ground := Go.Ground.phase }, { on := 5, ground := Go.Ground.phase }, { on := 6, ground := Go.Ground.phase }, { on := 7, ground := Go.Ground.phase }, { on := 8, ground := Go.Ground.phase }, { on := 9, ground := Go.Ground.phase }], guard := none }) (v := ?vg90018) rfl (by kernel_rfl) (fun _ _ _ h => h) (Or.inl (by kernel_rfl)) (Or.inl ⟨by rfl, ?yg90018⟩) ?_
          case yg90018 => (intro wS _; go_simp <;> with_reducible rfl)
          try simp only [Act.put, List.setIfInBounds_toArray, List.set_cons_zero, List.set_cons_succ]
          refine wpG_done (by kernel_rfl) ?_
          go_wp2_with fail
          go_meet
          have hrdf : kSchema.rd (w_4.setCell ⟨w_2.heap.size, 0, none⟩ (.slice ea0_87 r0.length ecap0_87)).heap.size (w_4.setCell ⟨w_2.heap.size, 0, none⟩ (.slice ea0_87 r0.length ecap0_87)) [.slice ea0_87 r0.length ecap0_87] r0 := kSchema_ok.ord (kSchema_ok.oframe OW_89.out (fun b hm => by rw [Below.heap_setCell _ _ _ _ (by show b ≠ w_2.heap.size; have := HL_90.out b hm; omega)])) (fun b hm => by have := HH_91.out b hm; first | omega | (simp; done) | (simp; omega))
          have hbf : Below v2.heap.size v2 (w_4.setCell ⟨w_2.heap.size, 0, none⟩ (.slice ea0_87 r0.length ecap0_87)) := (HBASE_106.out.setCell (p := ⟨w_2.heap.size, 0, none⟩) (by show v2.heap.size ≤ w_2.heap.size; omega) _)
          exact ⟨_, _, _, rfl, rfl, Lib.hid ⟨by go_simp, hrdf, hbf, by first | omega | (simp; done) | (simp; omega), by first | omega | (simp; done) | (simp; omega)⟩⟩
      · skip
        go_simp
        have hb_107 : Below w_1.heap.size w_1 (w_1.alloc (.cells #[Value.slice none 0 0] 28)) := (Below.refl _ _).alloc (Nat.le_refl _) _
        have hz_108 : w_1.heap.size ≤ w_1.heap.size + 1 := by have := (hb_107).size; first | omega | (simp at this; omega)
        have HB_109 := Lib.hid (box2_step HB_19.out hb_107)
        have hz_110 : w.heap.size + 2 ≤ w_1.heap.size + 1 := Nat.le_trans hz_20 hz_108
        have c_111 : (w_1.alloc (.cells #[Value.slice none 0 0] 28)).cell? ⟨w.heap.size, 0, none⟩ = some (.slice ea0_0 a0.length ecap0_0) := below_later (hb_107) c_21; clear c_21
        have c_112 : (w_1.alloc (.cells #[Value.slice none 0 0] 28)).cell? ⟨w.heap.size + 1, 0, none⟩ = some (.slice ea1_0 a1.length ecap1_0) := below_later (hb_107) c_22; clear c_22
        have RD_113 := Lib.hid (kSchema_ok.rbelow RD_16.out (Below.mono (hb_107) (by first | omega | (simp; done) | (simp; omega)))); clear RD_16
        have hz_114 : w_1.heap.size ≤ w_1.heap.size + 1 := Nat.le_trans hz_23 hz_108
        have HBASE_115 := Lib.hid (rstep HBASE_24.out hb_107); clear hb_107
        have c_116 : (w_1.alloc (.cells #[Value.slice none 0 0] 28)).cell? ⟨w_1.heap.size, 0, none⟩ = some (Value.slice none 0 0) := by go_simp
        have f_117 : (w_1.alloc (.cells #[Value.slice none 0 0] 28)).frozen? ⟨w_1.heap.size, 0, none⟩ = false := by go_simp
        refine hK.out _ _ (Or.inr ?khHeld90019) (fun hHeld90019S => ?_)
        case khHeld90019 => exact ⟨c_111, c_112⟩
        have hHeld90019 := hHeld90019S.held (by kernel_rfl)
        clear hK K
        try simp only [Act.put, List.setIfInBounds_toArray, List.set_cons_zero, List.set_cons_succ]
        refine wpG_one (i := 3) (o := { dst := some 31, op := Go.Op.call { callee := Go.Callee.value (Go.Operand.func 8), args := #[Go.Operand.tmp 30], argTypes := #[24] }, type := 28, pos := "exact.go:5313", after := #[{ on := 2, ground := Go.Ground.data }, { on := 1, ground := Go.Ground.chain }], guard := none }) rfl (by kernel_rfl) (fun K hK => ?_)
        go_simp
        refine (HTO1.out _ (box2_below HB_109.out)).mono ?_
        rintro e w_5 ⟨cs_118, fp_118, he, ho, hnd, hge, hb⟩
        have hrd := kSchema_ok.ord ho (B := w_5.heap.size) (kSchema_ok.olt ho)
        obtain ⟨ea0_118, ecap0_118, rfl, _⟩ := Schema_rd hrd
        change e = .returned (.agg #[.slice ea0_118 a1.length ecap0_118]) at he
        subst he
        have hrd2 := kSchema_ok.ord ho (B := w_5.heap.size) (kSchema_ok.olt ho)
        have OW_119 := Lib.hid ho; have HN_122 := Lib.hid hnd
        have HL_120 : Hid (∀ b ∈ fp_118, w_1.heap.size + 1 ≤ b) := Lib.hid fun b hm => by have := hge b hm; first | omega | (simp at this; omega)
        have HH_121 : Hid (∀ b ∈ fp_118, b < w_5.heap.size) := Lib.hid (kSchema_ok.olt ho)
        have RD_123 := Lib.hid hrd2; clear ho hnd hge hrd2 hrd
        have hb_124 := hb; clear hb
        have hz_125 : w_1.heap.size + 1 ≤ w_5.heap.size := by have := (hb_124).size; first | omega | (simp at this; omega)
        have HB_126 := Lib.hid (box2_step HB_109.out hb_124)
        have hz_127 : w.heap.size + 2 ≤ w_5.heap.size := Nat.le_trans hz_110 hz_125
        have c_128 : w_5.cell? ⟨w.heap.size, 0, none⟩ = some (.slice ea0_0 a0.length ecap0_0) := below_later (hb_124) c_111; clear c_111
        have c_129 : w_5.cell? ⟨w.heap.size + 1, 0, none⟩ = some (.slice ea1_0 a1.length ecap1_0) := below_later (hb_124) c_112; clear c_112
        have c_130 : w_5.cell? ⟨w_1.heap.size, 0, none⟩ = some (Value.slice none 0 0) := below_later (hb_124) c_116; clear c_116
        have f_131 : w_5.frozen? ⟨w_1.heap.size, 0, none⟩ = false := (Below.frozen (hb_124) (p := ⟨w_1.heap.size, 0, none⟩) (by show w_1.heap.size < _; first | omega | (simp; done) | (simp; omega))).trans f_117; clear f_117
        have RD_132 := Lib.hid (kSchema_ok.rbelow RD_113.out (Below.mono (hb_124) (by first | omega | (simp; done) | (simp; omega)))); clear RD_113
        have hz_133 : w_1.heap.size ≤ w_5.heap.size := Nat.le_trans hz_114 hz_125
        have HBLAST := Lib.hid hb_124
        have HQ := Lib.hid hb_124; clear hb_124 HQ
        have hz_134 : w_5.heap.size ≤ w_5.heap.size := Nat.le_refl _
        have HBASE_135 := Lib.hid (rstep HBASE_115.out HBLAST.out); clear HBLAST
        refine hK.out _ _ (Or.inl (by kernel_rfl)) (fun _ => ?_)
        clear hK K
        try simp only [Act.put, List.setIfInBounds_toArray, List.set_cons_zero, List.set_cons_succ]
        refine wpG_one (i := 4) (o := { dst := some 32, op := Go.Op.call { callee := Go.Callee.value (Go.Operand.func 7), args := #[Go.Operand.tmp 29, Go.Operand.tmp 31], argTypes := #[28, 28] }, type := 29, pos := "exact.go:5313", after := #[{ on := 1, ground := Go.Ground.data }, { on := 3, ground := Go.Ground.data }, { on := 3, ground := Go.Ground.chain }], guard := none }) rfl (by kernel_rfl) (fun K hK => ?_)
        go_simp
        refine (HS.out _ [.slice ea0_11 a0.length ecap0_11] [.slice ea0_118 a1.length ecap0_118] (kSchema_ok.rmono RD_132.out (by first | omega | (simp; done) | (simp; omega))) (kSchema_ok.rmono RD_123.out (by first | omega | (simp; done) | (simp; omega)))).mono ?_
        rintro e w_6 ⟨cs_136, fp_136, he, ho, hnd, hge, hb⟩
        have hrd := kSchema_ok.ord ho (B := w_6.heap.size) (kSchema_ok.olt ho)
        obtain ⟨ea0_136, ecap0_136, rfl⟩ : ∃ ea0_136 ecap0_136, cs_136 = [.slice ea0_136 r0.length ecap0_136] := by
          obtain ⟨ea0_136, ecap0_136, h, _⟩ := Schema_rd hrd
          exact ⟨ea0_136, ecap0_136, h⟩
        change e = .returned (.tuple #[(.agg #[.slice ea0_136 r0.length ecap0_136]), (.bool r1)]) at he
        subst he
        have RD_137 := Lib.hid hrd; clear hrd
        have OW_138 := Lib.hid ho; have HN_141 := Lib.hid hnd
        have HL_139 : Hid (∀ b ∈ fp_136, w_5.heap.size ≤ b) := Lib.hid fun b hm => by have := hge b hm; first | omega | (simp at this; omega)
        have HH_140 : Hid (∀ b ∈ fp_136, b < w_6.heap.size) := Lib.hid (kSchema_ok.olt ho)
        clear ho hnd hge
        have hb_142 := hb; clear hb
        have hz_143 : w_5.heap.size ≤ w_6.heap.size := by have := (hb_142).size; first | omega | (simp at this; omega)
        have HB_144 := Lib.hid (box2_step HB_126.out hb_142)
        have hz_145 : w.heap.size + 2 ≤ w_6.heap.size := Nat.le_trans hz_127 hz_143
        have c_146 : w_6.cell? ⟨w.heap.size, 0, none⟩ = some (.slice ea0_0 a0.length ecap0_0) := below_later (hb_142) c_128; clear c_128
        have c_147 : w_6.cell? ⟨w.heap.size + 1, 0, none⟩ = some (.slice ea1_0 a1.length ecap1_0) := below_later (hb_142) c_129; clear c_129
        have c_148 : w_6.cell? ⟨w_1.heap.size, 0, none⟩ = some (Value.slice none 0 0) := below_later (hb_142) c_130; clear c_130
        have f_149 : w_6.frozen? ⟨w_1.heap.size, 0, none⟩ = false := (Below.frozen (hb_142) (p := ⟨w_1.heap.size, 0, none⟩) (by show w_1.heap.size < _; first | omega | (simp; done) | (simp; omega))).trans f_131; clear f_131
        have RD_150 := Lib.hid (kSchema_ok.rbelow RD_132.out (Below.mono (hb_142) (by first | omega | (simp; done) | (simp; omega)))); clear RD_132
        have hz_151 : w_1.heap.size ≤ w_6.heap.size := Nat.le_trans hz_133 hz_143
        have RD_152 := Lib.hid (kSchema_ok.rbelow RD_123.out (Below.mono (hb_142) (by first | omega | (simp; done) | (simp; omega)))); clear RD_123
        have hz_153 : w_5.heap.size ≤ w_6.heap.size := Nat.le_trans hz_134 hz_143
        have HBLAST := Lib.hid hb_142
        clear hb_142
        have hz_154 : w_6.heap.size ≤ w_6.heap.size := Nat.le_refl _
        have HBASE_155 := Lib.hid (rstep HBASE_135.out HBLAST.out); clear HBLAST
        refine hK.out _ _ (Or.inl (by kernel_rfl)) (fun _ => ?_)
        clear hK K
        try simp only [Act.put, List.setIfInBounds_toArray, List.set_cons_zero, List.set_cons_succ]
        refine wpG_pure (i := 5) (oi := { dst := some 27, op := Go.Op.move (Go.Operand.tmp 32), type := 29, pos := "exact.go:5313", after := #[{ on := 4, ground := Go.Ground.data }], guard := none }) (v := ?vg90022) rfl (by kernel_rfl) (fun _ _ _ h => h) (Or.inl (by kernel_rfl)) (Or.inl ⟨by rfl, ?yg90022⟩) ?_
        case yg90022 => (intro wS _; go_simp <;> with_reducible rfl)
        try simp only [Act.put, List.setIfInBounds_toArray, List.set_cons_zero, List.set_cons_succ]
        refine wpG_pure (i := 6) (oi := { dst := some 33, op := Go.Op.extract (Go.Operand.tmp 27) 0, type := 28, pos := "exact.go:5313", after := #[{ on := 5, ground := Go.Ground.data }], guard := none }) (v := ?vg90023) rfl (by kernel_rfl) (fun _ _ _ h => h) (Or.inl (by kernel_rfl)) (Or.inl ⟨by rfl, ?yg90023⟩) ?_
        case yg90023 => (intro wS _; go_simp <;> with_reducible rfl)
        try simp only [Act.put, List.setIfInBounds_toArray, List.set_cons_zero, List.set_cons_succ]
        refine wpG_pure (i := 7) (oi := { dst := some 34, op := Go.Op.extract (Go.Operand.tmp 27) 1, type := 4, pos := "exact.go:5313", after := #[{ on := 5, ground := Go.Ground.data }, { on := 9, ground := Go.Ground.gcOnly Go.Departure.lateStores }], guard := none }) (v := ?vg90024) rfl (by kernel_rfl) (fun _ _ _ h => h) (Or.inl (by kernel_rfl)) (Or.inl ⟨by rfl, ?yg90024⟩) ?_
        case yg90024 => (intro wS _; go_simp <;> with_reducible rfl)
        try simp only [Act.put, List.setIfInBounds_toArray, List.set_cons_zero, List.set_cons_succ]
        refine wpG_one (i := 9) (o := { dst := none, op := Go.Op.store 28 (Go.Operand.tmp 6) (Go.Operand.tmp 33), type := 0, pos := "exact.go:5313", after := #[{ on := 8, ground := Go.Ground.data }, { on := 6, ground := Go.Ground.data }, { on := 4, ground := Go.Ground.chain }, { on := 0, ground := Go.Ground.phase }, { on := 1, ground := Go.Ground.phase }, { on := 2, ground := Go.Ground.phase }, { on := 3, ground := Go.Ground.phase }, { on := 4, ground := Go.Ground.phase }, { on := 5, ground := Go.Ground.phase }, { on := 6, ground := Go.Ground.phase }, { on := 7, ground := Go.Ground.textOnly Go.Departure.lateStores }, { on := 8, ground := Go.Ground.phase }], guard := none }) rfl (by kernel_rfl) (fun K hK => ?_)
        go_simp
        refine hK.out _ _ (Or.inl (by kernel_rfl)) (fun _ => ?_)
        clear hK K
        try simp only [Act.put, List.setIfInBounds_toArray, List.set_cons_zero, List.set_cons_succ]
        refine wpG_pure (i := 10) (oi := { dst := some 7, op := Go.Op.assign (Go.Operand.tmp 34), type := 4, pos := "exact.go:5313", after := #[{ on := 7, ground := Go.Ground.data }, { on := 9, ground := Go.Ground.chain }, { on := 0, ground := Go.Ground.phase }, { on := 1, ground := Go.Ground.phase }, { on := 2, ground := Go.Ground.phase }, { on := 3, ground := Go.Ground.phase }, { on := 4, ground := Go.Ground.phase }, { on := 5, ground := Go.Ground.phase }, { on := 6, ground := Go.Ground.phase }, { on := 7, ground := Go.Ground.phase }, { on := 8, ground := Go.Ground.phase }, { on := 9, ground := Go.Ground.phase }], guard := none }) (v := ?vg90026) rfl (by kernel_rfl) (fun _ _ _ h => h) (Or.inl (by kernel_rfl)) (Or.inl ⟨by rfl, ?yg90026⟩) ?_
        case yg90026 => (intro wS _; go_simp <;> with_reducible rfl)
        try simp only [Act.put, List.setIfInBounds_toArray, List.set_cons_zero, List.set_cons_succ]
        refine wpG_done (by kernel_rfl) ?_
        go_wp2_with fail
        go_meet
        have hrdf : kSchema.rd (w_6.setCell ⟨w_1.heap.size, 0, none⟩ (.slice ea0_136 r0.length ecap0_136)).heap.size (w_6.setCell ⟨w_1.heap.size, 0, none⟩ (.slice ea0_136 r0.length ecap0_136)) [.slice ea0_136 r0.length ecap0_136] r0 := kSchema_ok.ord (kSchema_ok.oframe OW_138.out (fun b hm => by rw [Below.heap_setCell _ _ _ _ (by show b ≠ w_1.heap.size; have := HL_139.out b hm; omega)])) (fun b hm => by have := HH_140.out b hm; first | omega | (simp; done) | (simp; omega))
        have hbf : Below v2.heap.size v2 (w_6.setCell ⟨w_1.heap.size, 0, none⟩ (.slice ea0_136 r0.length ecap0_136)) := (HBASE_155.out.setCell (p := ⟨w_1.heap.size, 0, none⟩) (by show v2.heap.size ≤ w_1.heap.size; omega) _)
        exact ⟨_, _, _, rfl, rfl, Lib.hid ⟨by go_simp, hrdf, hbf, by first | omega | (simp; done) | (simp; omega), by first | omega | (simp; done) | (simp; omega)⟩⟩
    · skip
      go_simp
      have hb_156 : Below v2.drew.heap.size v2.drew (v2.alloc (.cells #[Value.slice none 0 0] 28)).drew := below_alloc_drew _ _
      have hz_157 : v2.heap.size ≤ v2.heap.size + 1 := by have := (hb_156).size; first | omega | (simp at this; omega)
      have HB_158 := Lib.hid (box2_step HB_6.out hb_156)
      have hz_159 : w.heap.size + 2 ≤ v2.heap.size + 1 := Nat.le_trans hz_7 hz_157
      have c_160 : (v2.alloc (.cells #[Value.slice none 0 0] 28)).drew.cell? ⟨w.heap.size, 0, none⟩ = some (.slice ea0_0 a0.length ecap0_0) := below_later (hb_156) c_8; clear c_8
      have c_161 : (v2.alloc (.cells #[Value.slice none 0 0] 28)).drew.cell? ⟨w.heap.size + 1, 0, none⟩ = some (.slice ea1_0 a1.length ecap1_0) := below_later (hb_156) c_9; clear c_9
      have HBASE_162 := Lib.hid (rstep HBASE_10.out hb_156); clear hb_156
      have c_163 : (v2.alloc (.cells #[Value.slice none 0 0] 28)).drew.cell? ⟨v2.heap.size, 0, none⟩ = some (Value.slice none 0 0) := by go_simp
      have f_164 : (v2.alloc (.cells #[Value.slice none 0 0] 28)).drew.frozen? ⟨v2.heap.size, 0, none⟩ = false := by go_simp
      refine hK.out _ _ (Or.inr ?khHeld90027) (fun hHeld90027S => ?_)
      case khHeld90027 => exact ⟨c_160, c_161⟩
      have hHeld90027 := hHeld90027S.held (by kernel_rfl)
      clear hK K
      try simp only [Act.put, List.setIfInBounds_toArray, List.set_cons_zero, List.set_cons_succ]
      refine wpG_one (i := 1) (o := { dst := some 29, op := Go.Op.call { callee := Go.Callee.value (Go.Operand.func 8), args := #[Go.Operand.tmp 28], argTypes := #[24] }, type := 28, pos := "exact.go:5313", after := #[{ on := 0, ground := Go.Ground.data }], guard := none }) rfl (by kernel_rfl) (fun K hK => ?_)
      go_simp
      refine (HTO0.out _ (box2_below HB_158.out)).mono ?_
      rintro e w_7 ⟨cs_165, fp_165, he, ho, hnd, hge, hb⟩
      have hrd := kSchema_ok.ord ho (B := w_7.heap.size) (kSchema_ok.olt ho)
      obtain ⟨ea0_165, ecap0_165, rfl, _⟩ := Schema_rd hrd
      change e = .returned (.agg #[.slice ea0_165 a0.length ecap0_165]) at he
      subst he
      have hrd2 := kSchema_ok.ord ho (B := w_7.heap.size) (kSchema_ok.olt ho)
      have OW_166 := Lib.hid ho; have HN_169 := Lib.hid hnd
      have HL_167 : Hid (∀ b ∈ fp_165, v2.heap.size + 1 ≤ b) := Lib.hid fun b hm => by have := hge b hm; first | omega | (simp at this; omega)
      have HH_168 : Hid (∀ b ∈ fp_165, b < w_7.heap.size) := Lib.hid (kSchema_ok.olt ho)
      have RD_170 := Lib.hid hrd2; clear ho hnd hge hrd2 hrd
      have hb_171 := hb; clear hb
      have hz_172 : v2.heap.size + 1 ≤ w_7.heap.size := by have := (hb_171).size; first | omega | (simp at this; omega)
      have HB_173 := Lib.hid (box2_step HB_158.out hb_171)
      have hz_174 : w.heap.size + 2 ≤ w_7.heap.size := Nat.le_trans hz_159 hz_172
      have c_175 : w_7.cell? ⟨w.heap.size, 0, none⟩ = some (.slice ea0_0 a0.length ecap0_0) := below_later (hb_171) c_160; clear c_160
      have c_176 : w_7.cell? ⟨w.heap.size + 1, 0, none⟩ = some (.slice ea1_0 a1.length ecap1_0) := below_later (hb_171) c_161; clear c_161
      have c_177 : w_7.cell? ⟨v2.heap.size, 0, none⟩ = some (Value.slice none 0 0) := below_later (hb_171) c_163; clear c_163
      have f_178 : w_7.frozen? ⟨v2.heap.size, 0, none⟩ = false := (Below.frozen (hb_171) (p := ⟨v2.heap.size, 0, none⟩) (by show v2.heap.size < _; first | omega | (simp; done) | (simp; omega))).trans f_164; clear f_164
      have HBLAST := Lib.hid hb_171
      have HQ := Lib.hid hb_171; clear hb_171 HQ
      have hz_179 : w_7.heap.size ≤ w_7.heap.size := Nat.le_refl _
      have HBASE_180 := Lib.hid (rstep HBASE_162.out HBLAST.out); clear HBLAST
      refine hK.out _ _ (Or.inr ?khHeld90028) (fun hHeld90028S => ?_)
      case khHeld90028 => exact ⟨c_175, c_176⟩
      have hHeld90028 := hHeld90028S.held (by kernel_rfl)
      clear hK K
      try simp only [Act.put, List.setIfInBounds_toArray, List.set_cons_zero, List.set_cons_succ]
      refine wpG_one (i := 3) (o := { dst := some 31, op := Go.Op.call { callee := Go.Callee.value (Go.Operand.func 8), args := #[Go.Operand.tmp 30], argTypes := #[24] }, type := 28, pos := "exact.go:5313", after := #[{ on := 2, ground := Go.Ground.data }, { on := 1, ground := Go.Ground.chain }], guard := none }) rfl (by kernel_rfl) (fun K hK => ?_)
      go_simp
      refine (HTO1.out _ (box2_below HB_173.out)).mono ?_
      rintro e w_8 ⟨cs_181, fp_181, he, ho, hnd, hge, hb⟩
      have hrd := kSchema_ok.ord ho (B := w_8.heap.size) (kSchema_ok.olt ho)
      obtain ⟨ea0_181, ecap0_181, rfl, _⟩ := Schema_rd hrd
      change e = .returned (.agg #[.slice ea0_181 a1.length ecap0_181]) at he
      subst he
      have hrd2 := kSchema_ok.ord ho (B := w_8.heap.size) (kSchema_ok.olt ho)
      have OW_182 := Lib.hid ho; have HN_185 := Lib.hid hnd
      have HL_183 : Hid (∀ b ∈ fp_181, w_7.heap.size ≤ b) := Lib.hid fun b hm => by have := hge b hm; first | omega | (simp at this; omega)
      have HH_184 : Hid (∀ b ∈ fp_181, b < w_8.heap.size) := Lib.hid (kSchema_ok.olt ho)
      have RD_186 := Lib.hid hrd2; clear ho hnd hge hrd2 hrd
      have hb_187 := hb; clear hb
      have hz_188 : w_7.heap.size ≤ w_8.heap.size := by have := (hb_187).size; first | omega | (simp at this; omega)
      have HB_189 := Lib.hid (box2_step HB_173.out hb_187)
      have hz_190 : w.heap.size + 2 ≤ w_8.heap.size := Nat.le_trans hz_174 hz_188
      have c_191 : w_8.cell? ⟨w.heap.size, 0, none⟩ = some (.slice ea0_0 a0.length ecap0_0) := below_later (hb_187) c_175; clear c_175
      have c_192 : w_8.cell? ⟨w.heap.size + 1, 0, none⟩ = some (.slice ea1_0 a1.length ecap1_0) := below_later (hb_187) c_176; clear c_176
      have c_193 : w_8.cell? ⟨v2.heap.size, 0, none⟩ = some (Value.slice none 0 0) := below_later (hb_187) c_177; clear c_177
      have f_194 : w_8.frozen? ⟨v2.heap.size, 0, none⟩ = false := (Below.frozen (hb_187) (p := ⟨v2.heap.size, 0, none⟩) (by show v2.heap.size < _; first | omega | (simp; done) | (simp; omega))).trans f_178; clear f_178
      have RD_195 := Lib.hid (kSchema_ok.rbelow RD_170.out (Below.mono (hb_187) (by first | omega | (simp; done) | (simp; omega)))); clear RD_170
      have hz_196 : w_7.heap.size ≤ w_8.heap.size := Nat.le_trans hz_179 hz_188
      have HBLAST := Lib.hid hb_187
      have HQ := Lib.hid hb_187; clear hb_187 HQ
      have hz_197 : w_8.heap.size ≤ w_8.heap.size := Nat.le_refl _
      have HBASE_198 := Lib.hid (rstep HBASE_180.out HBLAST.out); clear HBLAST
      refine hK.out _ _ (Or.inl (by kernel_rfl)) (fun _ => ?_)
      clear hK K
      try simp only [Act.put, List.setIfInBounds_toArray, List.set_cons_zero, List.set_cons_succ]
      refine wpG_one (i := 4) (o := { dst := some 32, op := Go.Op.call { callee := Go.Callee.value (Go.Operand.func 7), args := #[Go.Operand.tmp 29, Go.Operand.tmp 31], argTypes := #[28, 28] }, type := 29, pos := "exact.go:5313", after := #[{ on := 1, ground := Go.Ground.data }, { on := 3, ground := Go.Ground.data }, { on := 3, ground := Go.Ground.chain }], guard := none }) rfl (by kernel_rfl) (fun K hK => ?_)
      go_simp
      refine (HS.out _ [.slice ea0_165 a0.length ecap0_165] [.slice ea0_181 a1.length ecap0_181] (kSchema_ok.rmono RD_195.out (by first | omega | (simp; done) | (simp; omega))) (kSchema_ok.rmono RD_186.out (by first | omega | (simp; done) | (simp; omega)))).mono ?_
      rintro e w_9 ⟨cs_199, fp_199, he, ho, hnd, hge, hb⟩
      have hrd := kSchema_ok.ord ho (B := w_9.heap.size) (kSchema_ok.olt ho)
      obtain ⟨ea0_199, ecap0_199, rfl⟩ : ∃ ea0_199 ecap0_199, cs_199 = [.slice ea0_199 r0.length ecap0_199] := by
        obtain ⟨ea0_199, ecap0_199, h, _⟩ := Schema_rd hrd
        exact ⟨ea0_199, ecap0_199, h⟩
      change e = .returned (.tuple #[(.agg #[.slice ea0_199 r0.length ecap0_199]), (.bool r1)]) at he
      subst he
      have RD_200 := Lib.hid hrd; clear hrd
      have OW_201 := Lib.hid ho; have HN_204 := Lib.hid hnd
      have HL_202 : Hid (∀ b ∈ fp_199, w_8.heap.size ≤ b) := Lib.hid fun b hm => by have := hge b hm; first | omega | (simp at this; omega)
      have HH_203 : Hid (∀ b ∈ fp_199, b < w_9.heap.size) := Lib.hid (kSchema_ok.olt ho)
      clear ho hnd hge
      have hb_205 := hb; clear hb
      have hz_206 : w_8.heap.size ≤ w_9.heap.size := by have := (hb_205).size; first | omega | (simp at this; omega)
      have HB_207 := Lib.hid (box2_step HB_189.out hb_205)
      have hz_208 : w.heap.size + 2 ≤ w_9.heap.size := Nat.le_trans hz_190 hz_206
      have c_209 : w_9.cell? ⟨w.heap.size, 0, none⟩ = some (.slice ea0_0 a0.length ecap0_0) := below_later (hb_205) c_191; clear c_191
      have c_210 : w_9.cell? ⟨w.heap.size + 1, 0, none⟩ = some (.slice ea1_0 a1.length ecap1_0) := below_later (hb_205) c_192; clear c_192
      have c_211 : w_9.cell? ⟨v2.heap.size, 0, none⟩ = some (Value.slice none 0 0) := below_later (hb_205) c_193; clear c_193
      have f_212 : w_9.frozen? ⟨v2.heap.size, 0, none⟩ = false := (Below.frozen (hb_205) (p := ⟨v2.heap.size, 0, none⟩) (by show v2.heap.size < _; first | omega | (simp; done) | (simp; omega))).trans f_194; clear f_194
      have RD_213 := Lib.hid (kSchema_ok.rbelow RD_195.out (Below.mono (hb_205) (by first | omega | (simp; done) | (simp; omega)))); clear RD_195
      have hz_214 : w_7.heap.size ≤ w_9.heap.size := Nat.le_trans hz_196 hz_206
      have RD_215 := Lib.hid (kSchema_ok.rbelow RD_186.out (Below.mono (hb_205) (by first | omega | (simp; done) | (simp; omega)))); clear RD_186
      have hz_216 : w_8.heap.size ≤ w_9.heap.size := Nat.le_trans hz_197 hz_206
      have HBLAST := Lib.hid hb_205
      clear hb_205
      have hz_217 : w_9.heap.size ≤ w_9.heap.size := Nat.le_refl _
      have HBASE_218 := Lib.hid (rstep HBASE_198.out HBLAST.out); clear HBLAST
      refine hK.out _ _ (Or.inl (by kernel_rfl)) (fun _ => ?_)
      clear hK K
      try simp only [Act.put, List.setIfInBounds_toArray, List.set_cons_zero, List.set_cons_succ]
      refine wpG_pure (i := 5) (oi := { dst := some 27, op := Go.Op.move (Go.Operand.tmp 32), type := 29, pos := "exact.go:5313", after := #[{ on := 4, ground := Go.Ground.data }], guard := none }) (v := ?vg90031) rfl (by kernel_rfl) (fun _ _ _ h => h) (Or.inl (by kernel_rfl)) (Or.inl ⟨by rfl, ?yg90031⟩) ?_
      case yg90031 => (intro wS _; go_simp <;> with_reducible rfl)
      try simp only [Act.put, List.setIfInBounds_toArray, List.set_cons_zero, List.set_cons_succ]
      refine wpG_pure (i := 6) (oi := { dst := some 33, op := Go.Op.extract (Go.Operand.tmp 27) 0, type := 28, pos := "exact.go:5313", after := #[{ on := 5, ground := Go.Ground.data }], guard := none }) (v := ?vg90032) rfl (by kernel_rfl) (fun _ _ _ h => h) (Or.inl (by kernel_rfl)) (Or.inl ⟨by rfl, ?yg90032⟩) ?_
      case yg90032 => (intro wS _; go_simp <;> with_reducible rfl)
      try simp only [Act.put, List.setIfInBounds_toArray, List.set_cons_zero, List.set_cons_succ]
      refine wpG_pure (i := 7) (oi := { dst := some 34, op := Go.Op.extract (Go.Operand.tmp 27) 1, type := 4, pos := "exact.go:5313", after := #[{ on := 5, ground := Go.Ground.data }, { on := 9, ground := Go.Ground.gcOnly Go.Departure.lateStores }], guard := none }) (v := ?vg90033) rfl (by kernel_rfl) (fun _ _ _ h => h) (Or.inl (by kernel_rfl)) (Or.inl ⟨by rfl, ?yg90033⟩) ?_
      case yg90033 => (intro wS _; go_simp <;> with_reducible rfl)
      try simp only [Act.put, List.setIfInBounds_toArray, List.set_cons_zero, List.set_cons_succ]
      refine wpG_one (i := 9) (o := { dst := none, op := Go.Op.store 28 (Go.Operand.tmp 6) (Go.Operand.tmp 33), type := 0, pos := "exact.go:5313", after := #[{ on := 8, ground := Go.Ground.data }, { on := 6, ground := Go.Ground.data }, { on := 4, ground := Go.Ground.chain }, { on := 0, ground := Go.Ground.phase }, { on := 1, ground := Go.Ground.phase }, { on := 2, ground := Go.Ground.phase }, { on := 3, ground := Go.Ground.phase }, { on := 4, ground := Go.Ground.phase }, { on := 5, ground := Go.Ground.phase }, { on := 6, ground := Go.Ground.phase }, { on := 7, ground := Go.Ground.textOnly Go.Departure.lateStores }, { on := 8, ground := Go.Ground.phase }], guard := none }) rfl (by kernel_rfl) (fun K hK => ?_)
      go_simp
      refine hK.out _ _ (Or.inl (by kernel_rfl)) (fun _ => ?_)
      clear hK K
      try simp only [Act.put, List.setIfInBounds_toArray, List.set_cons_zero, List.set_cons_succ]
      refine wpG_pure (i := 10) (oi := { dst := some 7, op := Go.Op.assign (Go.Operand.tmp 34), type := 4, pos := "exact.go:5313", after := #[{ on := 7, ground := Go.Ground.data }, { on := 9, ground := Go.Ground.chain }, { on := 0, ground := Go.Ground.phase }, { on := 1, ground := Go.Ground.phase }, { on := 2, ground := Go.Ground.phase }, { on := 3, ground := Go.Ground.phase }, { on := 4, ground := Go.Ground.phase }, { on := 5, ground := Go.Ground.phase }, { on := 6, ground := Go.Ground.phase }, { on := 7, ground := Go.Ground.phase }, { on := 8, ground := Go.Ground.phase }, { on := 9, ground := Go.Ground.phase }], guard := none }) (v := ?vg90035) rfl (by kernel_rfl) (fun _ _ _ h => h) (Or.inl (by kernel_rfl)) (Or.inl ⟨by rfl, ?yg90035⟩) ?_
      case yg90035 => (intro wS _; go_simp <;> with_reducible rfl)
      try simp only [Act.put, List.setIfInBounds_toArray, List.set_cons_zero, List.set_cons_succ]
      refine wpG_done (by kernel_rfl) ?_
      go_wp2_with fail
      go_meet
      have hrdf : kSchema.rd (w_9.setCell ⟨v2.heap.size, 0, none⟩ (.slice ea0_199 r0.length ecap0_199)).heap.size (w_9.setCell ⟨v2.heap.size, 0, none⟩ (.slice ea0_199 r0.length ecap0_199)) [.slice ea0_199 r0.length ecap0_199] r0 := kSchema_ok.ord (kSchema_ok.oframe OW_201.out (fun b hm => by rw [Below.heap_setCell _ _ _ _ (by show b ≠ v2.heap.size; have := HL_202.out b hm; omega)])) (fun b hm => by have := HH_203.out b hm; first | omega | (simp; done) | (simp; omega))
      have hbf : Below v2.heap.size v2 (w_9.setCell ⟨v2.heap.size, 0, none⟩ (.slice ea0_199 r0.length ecap0_199)) := (HBASE_218.out.setCell (p := ⟨v2.heap.size, 0, none⟩) (by show v2.heap.size ≤ v2.heap.size; omega) _)
      exact ⟨_, _, _, rfl, rfl, Lib.hid ⟨by go_simp, hrdf, hbf, by first | omega | (simp; done) | (simp; omega), by first | omega | (simp; done) | (simp; omega)⟩⟩
  case rest =>
    obtain ⟨B8, ec0_8, cc0_8, rfl, rfl, HCUT8⟩ := hcut
    obtain ⟨wc8, rfl⟩ : ∃ z : World, z = wc := ⟨_, rfl⟩
    obtain ⟨hcc0_8, hrdc, hbc, hB0_8, hB1_8⟩ := HCUT8.out
    have RD_219 := Lib.hid hrdc; clear hrdc
    have hb_220 := hbc; clear hbc
    have hz_221 : v2.heap.size ≤ wc8.heap.size := by have := (hb_220).size; first | omega | (simp at this; omega)
    have HB_222 := Lib.hid (box2_step HV2.out hb_220)
    have hz_223 : w.heap.size + 2 ≤ wc8.heap.size := Nat.le_trans hz_3 hz_221
    have c_224 : wc8.cell? ⟨w.heap.size, 0, none⟩ = some (.slice ea0_0 a0.length ecap0_0) := below_later (hb_220) c_1; clear c_1
    have c_225 : wc8.cell? ⟨w.heap.size + 1, 0, none⟩ = some (.slice ea1_0 a1.length ecap1_0) := below_later (hb_220) c_2; clear c_2
    clear hb_220
    have hz_226 : wc8.heap.size ≤ wc8.heap.size := Nat.le_refl _
    go_wp2_with fail
    refine (HTO0.out _ (box2_below HB_222.out)).mono ?_
    rintro e w_10 ⟨cs_227, fp_227, he, ho, hnd, hge, hb⟩
    have hrd := kSchema_ok.ord ho (B := w_10.heap.size) (kSchema_ok.olt ho)
    obtain ⟨ea0_227, ecap0_227, rfl, _⟩ := Schema_rd hrd
    change e = .returned (.agg #[.slice ea0_227 a0.length ecap0_227]) at he
    subst he
    have hrd2 := kSchema_ok.ord ho (B := w_10.heap.size) (kSchema_ok.olt ho)
    have OW_228 := Lib.hid ho; have HN_231 := Lib.hid hnd
    have HL_229 : Hid (∀ b ∈ fp_227, wc8.heap.size ≤ b) := Lib.hid fun b hm => by have := hge b hm; first | omega | (simp at this; omega)
    have HH_230 : Hid (∀ b ∈ fp_227, b < w_10.heap.size) := Lib.hid (kSchema_ok.olt ho)
    have RD_232 := Lib.hid hrd2; clear ho hnd hge hrd2 hrd
    have hb_233 := hb; clear hb
    have hz_234 : wc8.heap.size ≤ w_10.heap.size := by have := (hb_233).size; first | omega | (simp at this; omega)
    have HB_235 := Lib.hid (box2_step HB_222.out hb_233)
    have hz_236 : w.heap.size + 2 ≤ w_10.heap.size := Nat.le_trans hz_223 hz_234
    have c_237 : w_10.cell? ⟨w.heap.size, 0, none⟩ = some (.slice ea0_0 a0.length ecap0_0) := below_later (hb_233) c_224; clear c_224
    have c_238 : w_10.cell? ⟨w.heap.size + 1, 0, none⟩ = some (.slice ea1_0 a1.length ecap1_0) := below_later (hb_233) c_225; clear c_225
    have c_239 : w_10.cell? ⟨B8, 0, none⟩ = some (.slice ec0_8 r0.length cc0_8) := below_later (hb_233) hcc0_8; clear hcc0_8
    have RD_240 := Lib.hid (kSchema_ok.rbelow RD_219.out (Below.mono (hb_233) (by first | omega | (simp; done) | (simp; omega)))); clear RD_219
    have hz_241 : wc8.heap.size ≤ w_10.heap.size := Nat.le_trans hz_226 hz_234
    have HQ := Lib.hid hb_233; clear hb_233 HQ
    have hz_242 : w_10.heap.size ≤ w_10.heap.size := Nat.le_refl _
    have hb_243 : Below w_10.heap.size w_10 (w_10.alloc (.cells #[.slice ea0_227 a0.length ecap0_227] 28)) := (Below.refl _ _).alloc (Nat.le_refl _) _
    have hz_244 : w_10.heap.size ≤ w_10.heap.size + 1 := by have := (hb_243).size; first | omega | (simp at this; omega)
    have HB_245 := Lib.hid (box2_step HB_235.out hb_243)
    have hz_246 : w.heap.size + 2 ≤ w_10.heap.size + 1 := Nat.le_trans hz_236 hz_244
    have c_247 : (w_10.alloc (.cells #[.slice ea0_227 a0.length ecap0_227] 28)).cell? ⟨w.heap.size, 0, none⟩ = some (.slice ea0_0 a0.length ecap0_0) := below_later (hb_243) c_237; clear c_237
    have c_248 : (w_10.alloc (.cells #[.slice ea0_227 a0.length ecap0_227] 28)).cell? ⟨w.heap.size + 1, 0, none⟩ = some (.slice ea1_0 a1.length ecap1_0) := below_later (hb_243) c_238; clear c_238
    have c_249 : (w_10.alloc (.cells #[.slice ea0_227 a0.length ecap0_227] 28)).cell? ⟨B8, 0, none⟩ = some (.slice ec0_8 r0.length cc0_8) := below_later (hb_243) c_239; clear c_239
    have RD_250 := Lib.hid (kSchema_ok.rbelow RD_240.out (Below.mono (hb_243) (by first | omega | (simp; done) | (simp; omega)))); clear RD_240
    have hz_251 : wc8.heap.size ≤ w_10.heap.size + 1 := Nat.le_trans hz_241 hz_244
    have OW_252 := Lib.hid (kSchema_ok.oframe OW_228.out (w' := (w_10.alloc (.cells #[.slice ea0_227 a0.length ecap0_227] 28))) fun b hm => (hb_243).block b (kSchema_ok.olt OW_228.out b hm)); clear OW_228
    have hz_253 : w_10.heap.size ≤ w_10.heap.size + 1 := Nat.le_trans hz_242 hz_244
    clear hb_243
    have c_254 : (w_10.alloc (.cells #[.slice ea0_227 a0.length ecap0_227] 28)).cell? ⟨w_10.heap.size, 0, none⟩ = some (.slice ea0_227 a0.length ecap0_227) := by go_simp
    go_wp2_with fail
    refine (HTO1.out _ (box2_below HB_245.out)).mono ?_
    rintro e w_11 ⟨cs_255, fp_255, he, ho, hnd, hge, hb⟩
    have hrd := kSchema_ok.ord ho (B := w_11.heap.size) (kSchema_ok.olt ho)
    obtain ⟨ea0_255, ecap0_255, rfl, _⟩ := Schema_rd hrd
    change e = .returned (.agg #[.slice ea0_255 a1.length ecap0_255]) at he
    subst he
    have hrd2 := kSchema_ok.ord ho (B := w_11.heap.size) (kSchema_ok.olt ho)
    have OW_256 := Lib.hid ho; have HN_259 := Lib.hid hnd
    have HL_257 : Hid (∀ b ∈ fp_255, w_10.heap.size + 1 ≤ b) := Lib.hid fun b hm => by have := hge b hm; first | omega | (simp at this; omega)
    have HH_258 : Hid (∀ b ∈ fp_255, b < w_11.heap.size) := Lib.hid (kSchema_ok.olt ho)
    have RD_260 := Lib.hid hrd2; clear ho hnd hge hrd2 hrd
    have hb_261 := hb; clear hb
    have hz_262 : w_10.heap.size + 1 ≤ w_11.heap.size := by have := (hb_261).size; first | omega | (simp at this; omega)
    have HB_263 := Lib.hid (box2_step HB_245.out hb_261)
    have hz_264 : w.heap.size + 2 ≤ w_11.heap.size := Nat.le_trans hz_246 hz_262
    have c_265 : w_11.cell? ⟨w.heap.size, 0, none⟩ = some (.slice ea0_0 a0.length ecap0_0) := below_later (hb_261) c_247; clear c_247
    have c_266 : w_11.cell? ⟨w.heap.size + 1, 0, none⟩ = some (.slice ea1_0 a1.length ecap1_0) := below_later (hb_261) c_248; clear c_248
    have c_267 : w_11.cell? ⟨B8, 0, none⟩ = some (.slice ec0_8 r0.length cc0_8) := below_later (hb_261) c_249; clear c_249
    have c_268 : w_11.cell? ⟨w_10.heap.size, 0, none⟩ = some (.slice ea0_227 a0.length ecap0_227) := below_later (hb_261) c_254; clear c_254
    have RD_269 := Lib.hid (kSchema_ok.rbelow RD_250.out (Below.mono (hb_261) (by first | omega | (simp; done) | (simp; omega)))); clear RD_250
    have hz_270 : wc8.heap.size ≤ w_11.heap.size := Nat.le_trans hz_251 hz_262
    have OW_271 := Lib.hid (kSchema_ok.oframe OW_252.out (w' := w_11) fun b hm => (hb_261).block b (kSchema_ok.olt OW_252.out b hm)); clear OW_252
    have hz_272 : w_10.heap.size ≤ w_11.heap.size := Nat.le_trans hz_253 hz_262
    have HQ := Lib.hid hb_261; clear hb_261 HQ
    have hz_273 : w_11.heap.size ≤ w_11.heap.size := Nat.le_refl _
    have hb_274 : Below w_11.heap.size w_11 (w_11.alloc (.cells #[.slice ea0_255 a1.length ecap0_255] 28)) := (Below.refl _ _).alloc (Nat.le_refl _) _
    have hz_275 : w_11.heap.size ≤ w_11.heap.size + 1 := by have := (hb_274).size; first | omega | (simp at this; omega)
    have HB_276 := Lib.hid (box2_step HB_263.out hb_274)
    have hz_277 : w.heap.size + 2 ≤ w_11.heap.size + 1 := Nat.le_trans hz_264 hz_275
    have c_278 : (w_11.alloc (.cells #[.slice ea0_255 a1.length ecap0_255] 28)).cell? ⟨w.heap.size, 0, none⟩ = some (.slice ea0_0 a0.length ecap0_0) := below_later (hb_274) c_265; clear c_265
    have c_279 : (w_11.alloc (.cells #[.slice ea0_255 a1.length ecap0_255] 28)).cell? ⟨w.heap.size + 1, 0, none⟩ = some (.slice ea1_0 a1.length ecap1_0) := below_later (hb_274) c_266; clear c_266
    have c_280 : (w_11.alloc (.cells #[.slice ea0_255 a1.length ecap0_255] 28)).cell? ⟨B8, 0, none⟩ = some (.slice ec0_8 r0.length cc0_8) := below_later (hb_274) c_267; clear c_267
    have c_281 : (w_11.alloc (.cells #[.slice ea0_255 a1.length ecap0_255] 28)).cell? ⟨w_10.heap.size, 0, none⟩ = some (.slice ea0_227 a0.length ecap0_227) := below_later (hb_274) c_268; clear c_268
    have RD_282 := Lib.hid (kSchema_ok.rbelow RD_269.out (Below.mono (hb_274) (by first | omega | (simp; done) | (simp; omega)))); clear RD_269
    have hz_283 : wc8.heap.size ≤ w_11.heap.size + 1 := Nat.le_trans hz_270 hz_275
    have OW_284 := Lib.hid (kSchema_ok.oframe OW_271.out (w' := (w_11.alloc (.cells #[.slice ea0_255 a1.length ecap0_255] 28))) fun b hm => (hb_274).block b (kSchema_ok.olt OW_271.out b hm)); clear OW_271
    have hz_285 : w_10.heap.size ≤ w_11.heap.size + 1 := Nat.le_trans hz_272 hz_275
    have OW_286 := Lib.hid (kSchema_ok.oframe OW_256.out (w' := (w_11.alloc (.cells #[.slice ea0_255 a1.length ecap0_255] 28))) fun b hm => (hb_274).block b (kSchema_ok.olt OW_256.out b hm)); clear OW_256
    have hz_287 : w_11.heap.size ≤ w_11.heap.size + 1 := Nat.le_trans hz_273 hz_275
    clear hb_274
    have c_288 : (w_11.alloc (.cells #[.slice ea0_255 a1.length ecap0_255] 28)).cell? ⟨w_11.heap.size, 0, none⟩ = some (.slice ea0_255 a1.length ecap0_255) := by go_simp
    go_wp2_with fail
    refine (HI.out _ [.slice ea0_227 a0.length ecap0_227] [.slice ea0_255 a1.length ecap0_255] (kSchema_ok.ord OW_284.out (fun b hm => by have := HH_230.out b hm; first | omega | (simp; done) | (simp; omega))) (kSchema_ok.ord OW_286.out (fun b hm => by have := HH_258.out b hm; first | omega | (simp; done) | (simp; omega)))).mono ?_
    rintro e w_12 ⟨cs_289, fp_289, he, ho, hnd, hge, hb⟩
    have hrd := kSchema_ok.ord ho (B := w_12.heap.size) (kSchema_ok.olt ho)
    obtain ⟨ea0_289, ecap0_289, rfl⟩ : ∃ ea0_289 ecap0_289, cs_289 = [.slice ea0_289 r0.length ecap0_289] := by
      obtain ⟨ea0_289, ecap0_289, h, _⟩ := Schema_rd hrd
      exact ⟨ea0_289, ecap0_289, h⟩
    change e = .returned (.tuple #[(.agg #[.slice ea0_289 r0.length ecap0_289]), (.bool r1)]) at he
    subst he
    have RD_290 := Lib.hid hrd; clear hrd
    have OW_291 := Lib.hid ho; have HN_294 := Lib.hid hnd
    have HL_292 : Hid (∀ b ∈ fp_289, w_11.heap.size + 1 ≤ b) := Lib.hid fun b hm => by have := hge b hm; first | omega | (simp at this; omega)
    have HH_293 : Hid (∀ b ∈ fp_289, b < w_12.heap.size) := Lib.hid (kSchema_ok.olt ho)
    clear ho hnd hge
    have hb_295 := hb; clear hb
    have hz_296 : w_11.heap.size + 1 ≤ w_12.heap.size := by have := (hb_295).size; first | omega | (simp at this; omega)
    have HB_297 := Lib.hid (box2_step HB_276.out hb_295)
    have hz_298 : w.heap.size + 2 ≤ w_12.heap.size := Nat.le_trans hz_277 hz_296
    have c_299 : w_12.cell? ⟨w.heap.size, 0, none⟩ = some (.slice ea0_0 a0.length ecap0_0) := below_later (hb_295) c_278; clear c_278
    have c_300 : w_12.cell? ⟨w.heap.size + 1, 0, none⟩ = some (.slice ea1_0 a1.length ecap1_0) := below_later (hb_295) c_279; clear c_279
    have c_301 : w_12.cell? ⟨B8, 0, none⟩ = some (.slice ec0_8 r0.length cc0_8) := below_later (hb_295) c_280; clear c_280
    have c_302 : w_12.cell? ⟨w_10.heap.size, 0, none⟩ = some (.slice ea0_227 a0.length ecap0_227) := below_later (hb_295) c_281; clear c_281
    have c_303 : w_12.cell? ⟨w_11.heap.size, 0, none⟩ = some (.slice ea0_255 a1.length ecap0_255) := below_later (hb_295) c_288; clear c_288
    have RD_304 := Lib.hid (kSchema_ok.rbelow RD_282.out (Below.mono (hb_295) (by first | omega | (simp; done) | (simp; omega)))); clear RD_282
    have hz_305 : wc8.heap.size ≤ w_12.heap.size := Nat.le_trans hz_283 hz_296
    have OW_306 := Lib.hid (kSchema_ok.oframe OW_284.out (w' := w_12) fun b hm => (hb_295).block b (kSchema_ok.olt OW_284.out b hm)); clear OW_284
    have hz_307 : w_10.heap.size ≤ w_12.heap.size := Nat.le_trans hz_285 hz_296
    have OW_308 := Lib.hid (kSchema_ok.oframe OW_286.out (w' := w_12) fun b hm => (hb_295).block b (kSchema_ok.olt OW_286.out b hm)); clear OW_286
    have hz_309 : w_11.heap.size ≤ w_12.heap.size := Nat.le_trans hz_287 hz_296
    clear hb_295
    have hz_310 : w_12.heap.size ≤ w_12.heap.size := Nat.le_refl _
    have hb_311 : Below w_12.heap.size w_12 (w_12.alloc (.cells #[.slice ea0_289 r0.length ecap0_289] 28)) := (Below.refl _ _).alloc (Nat.le_refl _) _
    have hz_312 : w_12.heap.size ≤ w_12.heap.size + 1 := by have := (hb_311).size; first | omega | (simp at this; omega)
    have HB_313 := Lib.hid (box2_step HB_297.out hb_311)
    have hz_314 : w.heap.size + 2 ≤ w_12.heap.size + 1 := Nat.le_trans hz_298 hz_312
    have c_315 : (w_12.alloc (.cells #[.slice ea0_289 r0.length ecap0_289] 28)).cell? ⟨w.heap.size, 0, none⟩ = some (.slice ea0_0 a0.length ecap0_0) := below_later (hb_311) c_299; clear c_299
    have c_316 : (w_12.alloc (.cells #[.slice ea0_289 r0.length ecap0_289] 28)).cell? ⟨w.heap.size + 1, 0, none⟩ = some (.slice ea1_0 a1.length ecap1_0) := below_later (hb_311) c_300; clear c_300
    have c_317 : (w_12.alloc (.cells #[.slice ea0_289 r0.length ecap0_289] 28)).cell? ⟨B8, 0, none⟩ = some (.slice ec0_8 r0.length cc0_8) := below_later (hb_311) c_301; clear c_301
    have c_318 : (w_12.alloc (.cells #[.slice ea0_289 r0.length ecap0_289] 28)).cell? ⟨w_10.heap.size, 0, none⟩ = some (.slice ea0_227 a0.length ecap0_227) := below_later (hb_311) c_302; clear c_302
    have c_319 : (w_12.alloc (.cells #[.slice ea0_289 r0.length ecap0_289] 28)).cell? ⟨w_11.heap.size, 0, none⟩ = some (.slice ea0_255 a1.length ecap0_255) := below_later (hb_311) c_303; clear c_303
    have RD_320 := Lib.hid (kSchema_ok.rbelow RD_304.out (Below.mono (hb_311) (by first | omega | (simp; done) | (simp; omega)))); clear RD_304
    have hz_321 : wc8.heap.size ≤ w_12.heap.size + 1 := Nat.le_trans hz_305 hz_312
    have OW_322 := Lib.hid (kSchema_ok.oframe OW_306.out (w' := (w_12.alloc (.cells #[.slice ea0_289 r0.length ecap0_289] 28))) fun b hm => (hb_311).block b (kSchema_ok.olt OW_306.out b hm)); clear OW_306
    have hz_323 : w_10.heap.size ≤ w_12.heap.size + 1 := Nat.le_trans hz_307 hz_312
    have OW_324 := Lib.hid (kSchema_ok.oframe OW_308.out (w' := (w_12.alloc (.cells #[.slice ea0_289 r0.length ecap0_289] 28))) fun b hm => (hb_311).block b (kSchema_ok.olt OW_308.out b hm)); clear OW_308
    have hz_325 : w_11.heap.size ≤ w_12.heap.size + 1 := Nat.le_trans hz_309 hz_312
    have OW_326 := Lib.hid (kSchema_ok.oframe OW_291.out (w' := (w_12.alloc (.cells #[.slice ea0_289 r0.length ecap0_289] 28))) fun b hm => (hb_311).block b (kSchema_ok.olt OW_291.out b hm)); clear OW_291
    have hz_327 : w_12.heap.size ≤ w_12.heap.size + 1 := Nat.le_trans hz_310 hz_312
    clear hb_311
    have c_328 : (w_12.alloc (.cells #[.slice ea0_289 r0.length ecap0_289] 28)).cell? ⟨w_12.heap.size, 0, none⟩ = some (.slice ea0_289 r0.length ecap0_289) := by go_simp
    go_wp2_with fail
    refine (eq_Schema (w := (w_12.alloc (.cells #[.slice ea0_289 r0.length ecap0_289] 28))) (kSchema_ok.ord OW_326.out (fun b hm => by have := HH_293.out b hm; first | omega | (simp; done) | (simp; omega))) (kSchema_ok.rmono RD_320.out (by first | omega | (simp; done) | (simp; omega)))).mono ?_
    rintro e w_13 ⟨rfl, hb⟩
    have hb_329 := hb; clear hb
    have hz_330 : w_12.heap.size + 1 ≤ w_13.heap.size := by have := (hb_329).size; first | omega | (simp at this; omega)
    have HB_331 := Lib.hid (box2_step HB_313.out hb_329)
    have hz_332 : w.heap.size + 2 ≤ w_13.heap.size := Nat.le_trans hz_314 hz_330
    have c_333 : w_13.cell? ⟨w.heap.size, 0, none⟩ = some (.slice ea0_0 a0.length ecap0_0) := below_later (hb_329) c_315; clear c_315
    have c_334 : w_13.cell? ⟨w.heap.size + 1, 0, none⟩ = some (.slice ea1_0 a1.length ecap1_0) := below_later (hb_329) c_316; clear c_316
    have c_335 : w_13.cell? ⟨B8, 0, none⟩ = some (.slice ec0_8 r0.length cc0_8) := below_later (hb_329) c_317; clear c_317
    have c_336 : w_13.cell? ⟨w_10.heap.size, 0, none⟩ = some (.slice ea0_227 a0.length ecap0_227) := below_later (hb_329) c_318; clear c_318
    have c_337 : w_13.cell? ⟨w_11.heap.size, 0, none⟩ = some (.slice ea0_255 a1.length ecap0_255) := below_later (hb_329) c_319; clear c_319
    have c_338 : w_13.cell? ⟨w_12.heap.size, 0, none⟩ = some (.slice ea0_289 r0.length ecap0_289) := below_later (hb_329) c_328; clear c_328
    have RD_339 := Lib.hid (kSchema_ok.rbelow RD_320.out (Below.mono (hb_329) (by first | omega | (simp; done) | (simp; omega)))); clear RD_320
    have hz_340 : wc8.heap.size ≤ w_13.heap.size := Nat.le_trans hz_321 hz_330
    have OW_341 := Lib.hid (kSchema_ok.oframe OW_322.out (w' := w_13) fun b hm => (hb_329).block b (kSchema_ok.olt OW_322.out b hm)); clear OW_322
    have hz_342 : w_10.heap.size ≤ w_13.heap.size := Nat.le_trans hz_323 hz_330
    have OW_343 := Lib.hid (kSchema_ok.oframe OW_324.out (w' := w_13) fun b hm => (hb_329).block b (kSchema_ok.olt OW_324.out b hm)); clear OW_324
    have hz_344 : w_11.heap.size ≤ w_13.heap.size := Nat.le_trans hz_325 hz_330
    have OW_345 := Lib.hid (kSchema_ok.oframe OW_326.out (w' := w_13) fun b hm => (hb_329).block b (kSchema_ok.olt OW_326.out b hm)); clear OW_326
    have hz_346 : w_12.heap.size ≤ w_13.heap.size := Nat.le_trans hz_327 hz_330
    clear hb_329
    go_wp2_with fail
    have hb_347 : Below w_13.heap.size w_13 w_13.drew := (Below.refl _ _).drew
    have hz_348 : w_13.heap.size ≤ w_13.heap.size := by have := (hb_347).size; first | omega | (simp at this; omega)
    have HB_349 := Lib.hid (box2_step HB_331.out hb_347)
    have hz_350 : w.heap.size + 2 ≤ w_13.heap.size := Nat.le_trans hz_332 hz_348
    have c_351 : w_13.drew.cell? ⟨w.heap.size, 0, none⟩ = some (.slice ea0_0 a0.length ecap0_0) := below_later (hb_347) c_333; clear c_333
    have c_352 : w_13.drew.cell? ⟨w.heap.size + 1, 0, none⟩ = some (.slice ea1_0 a1.length ecap1_0) := below_later (hb_347) c_334; clear c_334
    have c_353 : w_13.drew.cell? ⟨B8, 0, none⟩ = some (.slice ec0_8 r0.length cc0_8) := below_later (hb_347) c_335; clear c_335
    have c_354 : w_13.drew.cell? ⟨w_10.heap.size, 0, none⟩ = some (.slice ea0_227 a0.length ecap0_227) := below_later (hb_347) c_336; clear c_336
    have c_355 : w_13.drew.cell? ⟨w_11.heap.size, 0, none⟩ = some (.slice ea0_255 a1.length ecap0_255) := below_later (hb_347) c_337; clear c_337
    have c_356 : w_13.drew.cell? ⟨w_12.heap.size, 0, none⟩ = some (.slice ea0_289 r0.length ecap0_289) := below_later (hb_347) c_338; clear c_338
    have RD_357 := Lib.hid (kSchema_ok.rbelow RD_339.out (Below.mono (hb_347) (by first | omega | (simp; done) | (simp; omega)))); clear RD_339
    have hz_358 : wc8.heap.size ≤ w_13.heap.size := Nat.le_trans hz_340 hz_348
    have OW_359 := Lib.hid (kSchema_ok.oframe OW_341.out (w' := w_13.drew) fun b hm => (hb_347).block b (kSchema_ok.olt OW_341.out b hm)); clear OW_341
    have hz_360 : w_10.heap.size ≤ w_13.heap.size := Nat.le_trans hz_342 hz_348
    have OW_361 := Lib.hid (kSchema_ok.oframe OW_343.out (w' := w_13.drew) fun b hm => (hb_347).block b (kSchema_ok.olt OW_343.out b hm)); clear OW_343
    have hz_362 : w_11.heap.size ≤ w_13.heap.size := Nat.le_trans hz_344 hz_348
    have OW_363 := Lib.hid (kSchema_ok.oframe OW_345.out (w' := w_13.drew) fun b hm => (hb_347).block b (kSchema_ok.olt OW_345.out b hm)); clear OW_345
    have hz_364 : w_12.heap.size ≤ w_13.heap.size := Nat.le_trans hz_346 hz_348
    clear hb_347
    refine wp_region_G [3] (fun w' => w'.cell? ⟨w.heap.size, 0, none⟩ = some (.slice ea0_0 a0.length ecap0_0) ∧ w'.cell? ⟨w_10.heap.size, 0, none⟩ = some (.slice ea0_227 a0.length ecap0_227)) (by kernel_rfl) ?_ (fun hHeld => ?_)
    · exact ⟨c_351, c_354⟩
    refine wpG_load (i := 0) (oi := { dst := some 54, op := Go.Op.load 28 (Go.Operand.tmp 8), type := 28, pos := "exact.go:5320", after := #[], guard := none }) (v := ?vg1) [[3, 0]] rfl (by kernel_rfl) (fun _ _ _ h => h) hHeld (Or.inl ⟨by rfl, ?yg1⟩) ?_
    case yg1 => (intro wS hSw; (try dsimp only at hSw); go_simp <;> with_reducible rfl)
    try simp only [Act.put, List.setIfInBounds_toArray, List.set_cons_zero, List.set_cons_succ]
    refine wpG_load (i := 1) (oi := { dst := some 55, op := Go.Op.load 24 (Go.Operand.tmp 2), type := 24, pos := "exact.go:5320", after := #[], guard := none }) (v := ?vg2) [[3, 2, 1]] rfl (by kernel_rfl) (fun _ _ _ h => h) hHeld (Or.inl ⟨by rfl, ?yg2⟩) ?_
    case yg2 => (intro wS hSw; (try dsimp only at hSw); go_simp <;> with_reducible rfl)
    try simp only [Act.put, List.setIfInBounds_toArray, List.set_cons_zero, List.set_cons_succ]
    refine wpG_one (i := 2) (o := { dst := some 56, op := Go.Op.call { callee := Go.Callee.value (Go.Operand.func 8), args := #[Go.Operand.tmp 55], argTypes := #[24] }, type := 28, pos := "exact.go:5320", after := #[{ on := 1, ground := Go.Ground.data }], guard := none }) rfl (by kernel_rfl) (fun K hK => ?_)
    go_simp
    refine (HTO0.out _ (box2_below HB_349.out)).mono ?_
    rintro e w_14 ⟨cs_365, fp_365, he, ho, hnd, hge, hb⟩
    have hrd := kSchema_ok.ord ho (B := w_14.heap.size) (kSchema_ok.olt ho)
    obtain ⟨ea0_365, ecap0_365, rfl, _⟩ := Schema_rd hrd
    change e = .returned (.agg #[.slice ea0_365 a0.length ecap0_365]) at he
    subst he
    have hrd2 := kSchema_ok.ord ho (B := w_14.heap.size) (kSchema_ok.olt ho)
    have OW_366 := Lib.hid ho; have HN_369 := Lib.hid hnd
    have HL_367 : Hid (∀ b ∈ fp_365, w_13.heap.size ≤ b) := Lib.hid fun b hm => by have := hge b hm; first | omega | (simp at this; omega)
    have HH_368 : Hid (∀ b ∈ fp_365, b < w_14.heap.size) := Lib.hid (kSchema_ok.olt ho)
    have RD_370 := Lib.hid hrd2; clear ho hnd hge hrd2 hrd
    have hb_371 := hb; clear hb
    have hz_372 : w_13.heap.size ≤ w_14.heap.size := by have := (hb_371).size; first | omega | (simp at this; omega)
    have HB_373 := Lib.hid (box2_step HB_349.out hb_371)
    have hz_374 : w.heap.size + 2 ≤ w_14.heap.size := Nat.le_trans hz_350 hz_372
    have c_375 : w_14.cell? ⟨w.heap.size, 0, none⟩ = some (.slice ea0_0 a0.length ecap0_0) := below_later (hb_371) c_351; clear c_351
    have c_376 : w_14.cell? ⟨w.heap.size + 1, 0, none⟩ = some (.slice ea1_0 a1.length ecap1_0) := below_later (hb_371) c_352; clear c_352
    have c_377 : w_14.cell? ⟨B8, 0, none⟩ = some (.slice ec0_8 r0.length cc0_8) := below_later (hb_371) c_353; clear c_353
    have c_378 : w_14.cell? ⟨w_10.heap.size, 0, none⟩ = some (.slice ea0_227 a0.length ecap0_227) := below_later (hb_371) c_354; clear c_354
    have c_379 : w_14.cell? ⟨w_11.heap.size, 0, none⟩ = some (.slice ea0_255 a1.length ecap0_255) := below_later (hb_371) c_355; clear c_355
    have c_380 : w_14.cell? ⟨w_12.heap.size, 0, none⟩ = some (.slice ea0_289 r0.length ecap0_289) := below_later (hb_371) c_356; clear c_356
    have RD_381 := Lib.hid (kSchema_ok.rbelow RD_357.out (Below.mono (hb_371) (by first | omega | (simp; done) | (simp; omega)))); clear RD_357
    have hz_382 : wc8.heap.size ≤ w_14.heap.size := Nat.le_trans hz_358 hz_372
    have OW_383 := Lib.hid (kSchema_ok.oframe OW_359.out (w' := w_14) fun b hm => (hb_371).block b (kSchema_ok.olt OW_359.out b hm)); clear OW_359
    have hz_384 : w_10.heap.size ≤ w_14.heap.size := Nat.le_trans hz_360 hz_372
    have OW_385 := Lib.hid (kSchema_ok.oframe OW_361.out (w' := w_14) fun b hm => (hb_371).block b (kSchema_ok.olt OW_361.out b hm)); clear OW_361
    have hz_386 : w_11.heap.size ≤ w_14.heap.size := Nat.le_trans hz_362 hz_372
    have OW_387 := Lib.hid (kSchema_ok.oframe OW_363.out (w' := w_14) fun b hm => (hb_371).block b (kSchema_ok.olt OW_363.out b hm)); clear OW_363
    have hz_388 : w_12.heap.size ≤ w_14.heap.size := Nat.le_trans hz_364 hz_372
    have HQ := Lib.hid hb_371; clear hb_371 HQ
    have hz_389 : w_14.heap.size ≤ w_14.heap.size := Nat.le_refl _
    refine hK.out _ _ (Or.inr ?khHeld3) (fun hHeld3S => ?_)
    case khHeld3 => exact ⟨c_375, c_378⟩
    have hHeld3 := hHeld3S.held (by kernel_rfl)
    clear hK K
    try simp only [Act.put, List.setIfInBounds_toArray, List.set_cons_zero, List.set_cons_succ]
    refine wpG_one (i := 3) (o := { dst := some 57, op := Go.Op.call { callee := Go.Callee.value (Go.Operand.func 10), args := #[Go.Operand.tmp 54, Go.Operand.tmp 56], argTypes := #[28, 28] }, type := 4, pos := "exact.go:5320", after := #[{ on := 0, ground := Go.Ground.data }, { on := 2, ground := Go.Ground.data }, { on := 2, ground := Go.Ground.chain }], guard := none }) rfl (by kernel_rfl) (fun K hK => ?_)
    go_simp
    refine (eq_Schema (w := w_14) (kSchema_ok.ord OW_383.out (fun b hm => by have := HH_230.out b hm; first | omega | (simp; done) | (simp; omega))) (kSchema_ok.rmono RD_370.out (by first | omega | (simp; done) | (simp; omega)))).mono ?_
    rintro e w_15 ⟨rfl, hb⟩
    have hb_390 := hb; clear hb
    have hz_391 : w_14.heap.size ≤ w_15.heap.size := by have := (hb_390).size; first | omega | (simp at this; omega)
    have HB_392 := Lib.hid (box2_step HB_373.out hb_390)
    have hz_393 : w.heap.size + 2 ≤ w_15.heap.size := Nat.le_trans hz_374 hz_391
    have c_394 : w_15.cell? ⟨w.heap.size, 0, none⟩ = some (.slice ea0_0 a0.length ecap0_0) := below_later (hb_390) c_375; clear c_375
    have c_395 : w_15.cell? ⟨w.heap.size + 1, 0, none⟩ = some (.slice ea1_0 a1.length ecap1_0) := below_later (hb_390) c_376; clear c_376
    have c_396 : w_15.cell? ⟨B8, 0, none⟩ = some (.slice ec0_8 r0.length cc0_8) := below_later (hb_390) c_377; clear c_377
    have c_397 : w_15.cell? ⟨w_10.heap.size, 0, none⟩ = some (.slice ea0_227 a0.length ecap0_227) := below_later (hb_390) c_378; clear c_378
    have c_398 : w_15.cell? ⟨w_11.heap.size, 0, none⟩ = some (.slice ea0_255 a1.length ecap0_255) := below_later (hb_390) c_379; clear c_379
    have c_399 : w_15.cell? ⟨w_12.heap.size, 0, none⟩ = some (.slice ea0_289 r0.length ecap0_289) := below_later (hb_390) c_380; clear c_380
    have RD_400 := Lib.hid (kSchema_ok.rbelow RD_381.out (Below.mono (hb_390) (by first | omega | (simp; done) | (simp; omega)))); clear RD_381
    have hz_401 : wc8.heap.size ≤ w_15.heap.size := Nat.le_trans hz_382 hz_391
    have RD_402 := Lib.hid (kSchema_ok.rbelow RD_370.out (Below.mono (hb_390) (by first | omega | (simp; done) | (simp; omega)))); clear RD_370
    have hz_403 : w_14.heap.size ≤ w_15.heap.size := Nat.le_trans hz_389 hz_391
    have OW_404 := Lib.hid (kSchema_ok.oframe OW_383.out (w' := w_15) fun b hm => (hb_390).block b (kSchema_ok.olt OW_383.out b hm)); clear OW_383
    have hz_405 : w_10.heap.size ≤ w_15.heap.size := Nat.le_trans hz_384 hz_391
    have OW_406 := Lib.hid (kSchema_ok.oframe OW_385.out (w' := w_15) fun b hm => (hb_390).block b (kSchema_ok.olt OW_385.out b hm)); clear OW_385
    have hz_407 : w_11.heap.size ≤ w_15.heap.size := Nat.le_trans hz_386 hz_391
    have OW_408 := Lib.hid (kSchema_ok.oframe OW_387.out (w' := w_15) fun b hm => (hb_390).block b (kSchema_ok.olt OW_387.out b hm)); clear OW_387
    have hz_409 : w_12.heap.size ≤ w_15.heap.size := Nat.le_trans hz_388 hz_391
    clear hb_390
    refine hK.out _ _ (Or.inl (by kernel_rfl)) (fun _ => ?_)
    clear hK K
    try simp only [Act.put, List.setIfInBounds_toArray, List.set_cons_zero, List.set_cons_succ]
    refine wpG_pure (i := 4) (oi := { dst := some 58, op := Go.Op.unOp Go.UnOp.not 4 (Go.Operand.tmp 57), type := 4, pos := "exact.go:5320", after := #[{ on := 3, ground := Go.Ground.data }], guard := none }) (v := ?vg5) rfl (by kernel_rfl) (fun _ _ _ h => h) (Or.inl (by kernel_rfl)) (Or.inl ⟨by rfl, ?yg5⟩) ?_
    case yg5 => (intro wS _; go_simp <;> with_reducible rfl)
    try simp only [Act.put, List.setIfInBounds_toArray, List.set_cons_zero, List.set_cons_succ]
    refine wpG_done (by kernel_rfl) ?_
    go_wp2_with fail
    have hb_410 : Below w_15.heap.size w_15 w_15.drew := (Below.refl _ _).drew
    have hz_411 : w_15.heap.size ≤ w_15.heap.size := by have := (hb_410).size; first | omega | (simp at this; omega)
    have HB_412 := Lib.hid (box2_step HB_392.out hb_410)
    have hz_413 : w.heap.size + 2 ≤ w_15.heap.size := Nat.le_trans hz_393 hz_411
    have c_414 : w_15.drew.cell? ⟨w.heap.size, 0, none⟩ = some (.slice ea0_0 a0.length ecap0_0) := below_later (hb_410) c_394; clear c_394
    have c_415 : w_15.drew.cell? ⟨w.heap.size + 1, 0, none⟩ = some (.slice ea1_0 a1.length ecap1_0) := below_later (hb_410) c_395; clear c_395
    have c_416 : w_15.drew.cell? ⟨B8, 0, none⟩ = some (.slice ec0_8 r0.length cc0_8) := below_later (hb_410) c_396; clear c_396
    have c_417 : w_15.drew.cell? ⟨w_10.heap.size, 0, none⟩ = some (.slice ea0_227 a0.length ecap0_227) := below_later (hb_410) c_397; clear c_397
    have c_418 : w_15.drew.cell? ⟨w_11.heap.size, 0, none⟩ = some (.slice ea0_255 a1.length ecap0_255) := below_later (hb_410) c_398; clear c_398
    have c_419 : w_15.drew.cell? ⟨w_12.heap.size, 0, none⟩ = some (.slice ea0_289 r0.length ecap0_289) := below_later (hb_410) c_399; clear c_399
    have RD_420 := Lib.hid (kSchema_ok.rbelow RD_400.out (Below.mono (hb_410) (by first | omega | (simp; done) | (simp; omega)))); clear RD_400
    have hz_421 : wc8.heap.size ≤ w_15.heap.size := Nat.le_trans hz_401 hz_411
    have OW_422 := Lib.hid (kSchema_ok.oframe OW_404.out (w' := w_15.drew) fun b hm => (hb_410).block b (kSchema_ok.olt OW_404.out b hm)); clear OW_404
    have hz_423 : w_10.heap.size ≤ w_15.heap.size := Nat.le_trans hz_405 hz_411
    have OW_424 := Lib.hid (kSchema_ok.oframe OW_406.out (w' := w_15.drew) fun b hm => (hb_410).block b (kSchema_ok.olt OW_406.out b hm)); clear OW_406
    have hz_425 : w_11.heap.size ≤ w_15.heap.size := Nat.le_trans hz_407 hz_411
    have OW_426 := Lib.hid (kSchema_ok.oframe OW_408.out (w' := w_15.drew) fun b hm => (hb_410).block b (kSchema_ok.olt OW_408.out b hm)); clear OW_408
    have hz_427 : w_12.heap.size ≤ w_15.heap.size := Nat.le_trans hz_409 hz_411
    clear hb_410
    refine wp_region_G [3] (fun w' => w'.cell? ⟨w.heap.size + 1, 0, none⟩ = some (.slice ea1_0 a1.length ecap1_0) ∧ w'.cell? ⟨w_11.heap.size, 0, none⟩ = some (.slice ea0_255 a1.length ecap0_255)) (by kernel_rfl) ?_ (fun hHeld => ?_)
    · exact ⟨c_415, c_418⟩
    refine wpG_load (i := 0) (oi := { dst := some 59, op := Go.Op.load 28 (Go.Operand.tmp 9), type := 28, pos := "exact.go:5323", after := #[], guard := none }) (v := ?vg6) [[3, 0]] rfl (by kernel_rfl) (fun _ _ _ h => h) hHeld (Or.inl ⟨by rfl, ?yg6⟩) ?_
    case yg6 => (intro wS hSw; (try dsimp only at hSw); go_simp <;> with_reducible rfl)
    try simp only [Act.put, List.setIfInBounds_toArray, List.set_cons_zero, List.set_cons_succ]
    refine wpG_load (i := 1) (oi := { dst := some 60, op := Go.Op.load 24 (Go.Operand.tmp 3), type := 24, pos := "exact.go:5323", after := #[], guard := none }) (v := ?vg7) [[3, 2, 1]] rfl (by kernel_rfl) (fun _ _ _ h => h) hHeld (Or.inl ⟨by rfl, ?yg7⟩) ?_
    case yg7 => (intro wS hSw; (try dsimp only at hSw); go_simp <;> with_reducible rfl)
    try simp only [Act.put, List.setIfInBounds_toArray, List.set_cons_zero, List.set_cons_succ]
    refine wpG_one (i := 2) (o := { dst := some 61, op := Go.Op.call { callee := Go.Callee.value (Go.Operand.func 8), args := #[Go.Operand.tmp 60], argTypes := #[24] }, type := 28, pos := "exact.go:5323", after := #[{ on := 1, ground := Go.Ground.data }], guard := none }) rfl (by kernel_rfl) (fun K hK => ?_)
    go_simp
    refine (HTO1.out _ (box2_below HB_412.out)).mono ?_
    rintro e w_16 ⟨cs_428, fp_428, he, ho, hnd, hge, hb⟩
    have hrd := kSchema_ok.ord ho (B := w_16.heap.size) (kSchema_ok.olt ho)
    obtain ⟨ea0_428, ecap0_428, rfl, _⟩ := Schema_rd hrd
    change e = .returned (.agg #[.slice ea0_428 a1.length ecap0_428]) at he
    subst he
    have hrd2 := kSchema_ok.ord ho (B := w_16.heap.size) (kSchema_ok.olt ho)
    have OW_429 := Lib.hid ho; have HN_432 := Lib.hid hnd
    have HL_430 : Hid (∀ b ∈ fp_428, w_15.heap.size ≤ b) := Lib.hid fun b hm => by have := hge b hm; first | omega | (simp at this; omega)
    have HH_431 : Hid (∀ b ∈ fp_428, b < w_16.heap.size) := Lib.hid (kSchema_ok.olt ho)
    have RD_433 := Lib.hid hrd2; clear ho hnd hge hrd2 hrd
    have hb_434 := hb; clear hb
    have hz_435 : w_15.heap.size ≤ w_16.heap.size := by have := (hb_434).size; first | omega | (simp at this; omega)
    have HB_436 := Lib.hid (box2_step HB_412.out hb_434)
    have hz_437 : w.heap.size + 2 ≤ w_16.heap.size := Nat.le_trans hz_413 hz_435
    have c_438 : w_16.cell? ⟨w.heap.size, 0, none⟩ = some (.slice ea0_0 a0.length ecap0_0) := below_later (hb_434) c_414; clear c_414
    have c_439 : w_16.cell? ⟨w.heap.size + 1, 0, none⟩ = some (.slice ea1_0 a1.length ecap1_0) := below_later (hb_434) c_415; clear c_415
    have c_440 : w_16.cell? ⟨B8, 0, none⟩ = some (.slice ec0_8 r0.length cc0_8) := below_later (hb_434) c_416; clear c_416
    have c_441 : w_16.cell? ⟨w_10.heap.size, 0, none⟩ = some (.slice ea0_227 a0.length ecap0_227) := below_later (hb_434) c_417; clear c_417
    have c_442 : w_16.cell? ⟨w_11.heap.size, 0, none⟩ = some (.slice ea0_255 a1.length ecap0_255) := below_later (hb_434) c_418; clear c_418
    have c_443 : w_16.cell? ⟨w_12.heap.size, 0, none⟩ = some (.slice ea0_289 r0.length ecap0_289) := below_later (hb_434) c_419; clear c_419
    have RD_444 := Lib.hid (kSchema_ok.rbelow RD_420.out (Below.mono (hb_434) (by first | omega | (simp; done) | (simp; omega)))); clear RD_420
    have hz_445 : wc8.heap.size ≤ w_16.heap.size := Nat.le_trans hz_421 hz_435
    have OW_446 := Lib.hid (kSchema_ok.oframe OW_422.out (w' := w_16) fun b hm => (hb_434).block b (kSchema_ok.olt OW_422.out b hm)); clear OW_422
    have hz_447 : w_10.heap.size ≤ w_16.heap.size := Nat.le_trans hz_423 hz_435
    have OW_448 := Lib.hid (kSchema_ok.oframe OW_424.out (w' := w_16) fun b hm => (hb_434).block b (kSchema_ok.olt OW_424.out b hm)); clear OW_424
    have hz_449 : w_11.heap.size ≤ w_16.heap.size := Nat.le_trans hz_425 hz_435
    have OW_450 := Lib.hid (kSchema_ok.oframe OW_426.out (w' := w_16) fun b hm => (hb_434).block b (kSchema_ok.olt OW_426.out b hm)); clear OW_426
    have hz_451 : w_12.heap.size ≤ w_16.heap.size := Nat.le_trans hz_427 hz_435
    have HQ := Lib.hid hb_434; clear hb_434 HQ
    have hz_452 : w_16.heap.size ≤ w_16.heap.size := Nat.le_refl _
    refine hK.out _ _ (Or.inr ?khHeld8) (fun hHeld8S => ?_)
    case khHeld8 => exact ⟨c_439, c_442⟩
    have hHeld8 := hHeld8S.held (by kernel_rfl)
    clear hK K
    try simp only [Act.put, List.setIfInBounds_toArray, List.set_cons_zero, List.set_cons_succ]
    refine wpG_one (i := 3) (o := { dst := some 62, op := Go.Op.call { callee := Go.Callee.value (Go.Operand.func 10), args := #[Go.Operand.tmp 59, Go.Operand.tmp 61], argTypes := #[28, 28] }, type := 4, pos := "exact.go:5323", after := #[{ on := 0, ground := Go.Ground.data }, { on := 2, ground := Go.Ground.data }, { on := 2, ground := Go.Ground.chain }], guard := none }) rfl (by kernel_rfl) (fun K hK => ?_)
    go_simp
    refine (eq_Schema (w := w_16) (kSchema_ok.ord OW_448.out (fun b hm => by have := HH_258.out b hm; first | omega | (simp; done) | (simp; omega))) (kSchema_ok.rmono RD_433.out (by first | omega | (simp; done) | (simp; omega)))).mono ?_
    rintro e w_17 ⟨rfl, hb⟩
    have hb_453 := hb; clear hb
    have hz_454 : w_16.heap.size ≤ w_17.heap.size := by have := (hb_453).size; first | omega | (simp at this; omega)
    have HB_455 := Lib.hid (box2_step HB_436.out hb_453)
    have hz_456 : w.heap.size + 2 ≤ w_17.heap.size := Nat.le_trans hz_437 hz_454
    have c_457 : w_17.cell? ⟨w.heap.size, 0, none⟩ = some (.slice ea0_0 a0.length ecap0_0) := below_later (hb_453) c_438; clear c_438
    have c_458 : w_17.cell? ⟨w.heap.size + 1, 0, none⟩ = some (.slice ea1_0 a1.length ecap1_0) := below_later (hb_453) c_439; clear c_439
    have c_459 : w_17.cell? ⟨B8, 0, none⟩ = some (.slice ec0_8 r0.length cc0_8) := below_later (hb_453) c_440; clear c_440
    have c_460 : w_17.cell? ⟨w_10.heap.size, 0, none⟩ = some (.slice ea0_227 a0.length ecap0_227) := below_later (hb_453) c_441; clear c_441
    have c_461 : w_17.cell? ⟨w_11.heap.size, 0, none⟩ = some (.slice ea0_255 a1.length ecap0_255) := below_later (hb_453) c_442; clear c_442
    have c_462 : w_17.cell? ⟨w_12.heap.size, 0, none⟩ = some (.slice ea0_289 r0.length ecap0_289) := below_later (hb_453) c_443; clear c_443
    have RD_463 := Lib.hid (kSchema_ok.rbelow RD_444.out (Below.mono (hb_453) (by first | omega | (simp; done) | (simp; omega)))); clear RD_444
    have hz_464 : wc8.heap.size ≤ w_17.heap.size := Nat.le_trans hz_445 hz_454
    have RD_465 := Lib.hid (kSchema_ok.rbelow RD_433.out (Below.mono (hb_453) (by first | omega | (simp; done) | (simp; omega)))); clear RD_433
    have hz_466 : w_16.heap.size ≤ w_17.heap.size := Nat.le_trans hz_452 hz_454
    have OW_467 := Lib.hid (kSchema_ok.oframe OW_446.out (w' := w_17) fun b hm => (hb_453).block b (kSchema_ok.olt OW_446.out b hm)); clear OW_446
    have hz_468 : w_10.heap.size ≤ w_17.heap.size := Nat.le_trans hz_447 hz_454
    have OW_469 := Lib.hid (kSchema_ok.oframe OW_448.out (w' := w_17) fun b hm => (hb_453).block b (kSchema_ok.olt OW_448.out b hm)); clear OW_448
    have hz_470 : w_11.heap.size ≤ w_17.heap.size := Nat.le_trans hz_449 hz_454
    have OW_471 := Lib.hid (kSchema_ok.oframe OW_450.out (w' := w_17) fun b hm => (hb_453).block b (kSchema_ok.olt OW_450.out b hm)); clear OW_450
    have hz_472 : w_12.heap.size ≤ w_17.heap.size := Nat.le_trans hz_451 hz_454
    clear hb_453
    refine hK.out _ _ (Or.inl (by kernel_rfl)) (fun _ => ?_)
    clear hK K
    try simp only [Act.put, List.setIfInBounds_toArray, List.set_cons_zero, List.set_cons_succ]
    refine wpG_pure (i := 4) (oi := { dst := some 63, op := Go.Op.unOp Go.UnOp.not 4 (Go.Operand.tmp 62), type := 4, pos := "exact.go:5323", after := #[{ on := 3, ground := Go.Ground.data }], guard := none }) (v := ?vg10) rfl (by kernel_rfl) (fun _ _ _ h => h) (Or.inl (by kernel_rfl)) (Or.inl ⟨by rfl, ?yg10⟩) ?_
    case yg10 => (intro wS _; go_simp <;> with_reducible rfl)
    try simp only [Act.put, List.setIfInBounds_toArray, List.set_cons_zero, List.set_cons_succ]
    refine wpG_done (by kernel_rfl) ?_
    have hm_473 := mark_Schema (w := w_17) 1 OW_467.out HN_231.out (by omega) (by have := kSchema_ok.cwt a0; have := kSchema_ok.cwt a1; have := HT.out; have e0 : kSchema.s ≤ 8 := (by decide); have e1 : kSchema.s ≤ 8 := (by decide); omega)
    rw [show ((1 : Nat) : Int) = 1 from rfl] at hm_473
    have hqq_474 : ∃ z : Nat, 1 + kSchema.cnt a0 = z := ⟨_, rfl⟩
    obtain ⟨q_474, hq_474⟩ := hqq_474
    rw [hq_474] at hm_473
    have bq_474 : 1 ≤ q_474 := by omega
    have HM_475 := Lib.hid hm_473; clear hm_473
    have HQ_476 := Lib.hid hq_474; clear hq_474
    go_wp2_with fail
    refine HM_475.out.mono ?_
    rintro e w_18 ⟨rfl, ho, hw⟩
    have OW_477 := Lib.hid ho; clear ho
    have hw_478 := hw; clear hw
    have hz_479 : w_17.heap.size ≤ w_18.heap.size := by have := (hw_478).size; first | omega | (simp at this; omega)
    have HB_480 := Lib.hid (Below.trans HB_455.out (Wrote.below hw_478 (by first | omega | (simp; done) | (simp; omega)) (fun b hm => by have := HL_229.out b hm; omega)))
    have hz_481 : w.heap.size + 2 ≤ w_18.heap.size := Nat.le_trans hz_456 hz_479
    have c_482 : w_18.cell? ⟨w.heap.size, 0, none⟩ = some (.slice ea0_0 a0.length ecap0_0) := Wrote.cell (hw_478) c_457 (fun hm => by have := HL_229.out _ hm; have := HH_230.out _ hm; omega); clear c_457
    have c_483 : w_18.cell? ⟨w.heap.size + 1, 0, none⟩ = some (.slice ea1_0 a1.length ecap1_0) := Wrote.cell (hw_478) c_458 (fun hm => by have := HL_229.out _ hm; have := HH_230.out _ hm; omega); clear c_458
    have c_484 : w_18.cell? ⟨B8, 0, none⟩ = some (.slice ec0_8 r0.length cc0_8) := Wrote.cell (hw_478) c_459 (fun hm => by have := HL_229.out _ hm; have := HH_230.out _ hm; omega); clear c_459
    have c_485 : w_18.cell? ⟨w_10.heap.size, 0, none⟩ = some (.slice ea0_227 a0.length ecap0_227) := Wrote.cell (hw_478) c_460 (fun hm => by have := HL_229.out _ hm; have := HH_230.out _ hm; omega); clear c_460
    have c_486 : w_18.cell? ⟨w_11.heap.size, 0, none⟩ = some (.slice ea0_255 a1.length ecap0_255) := Wrote.cell (hw_478) c_461 (fun hm => by have := HL_229.out _ hm; have := HH_230.out _ hm; omega); clear c_461
    have c_487 : w_18.cell? ⟨w_12.heap.size, 0, none⟩ = some (.slice ea0_289 r0.length ecap0_289) := Wrote.cell (hw_478) c_462 (fun hm => by have := HL_229.out _ hm; have := HH_230.out _ hm; omega); clear c_462
    have RD_488 := Lib.hid (kSchema_ok.rbelow RD_463.out (Wrote.below hw_478 (by first | omega | (simp; done) | (simp; omega)) (fun b hm => by have := HL_229.out b hm; omega))); clear RD_463
    have hz_489 : wc8.heap.size ≤ w_18.heap.size := Nat.le_trans hz_464 hz_479
    have OW_490 := Lib.hid (kSchema_ok.oframe OW_469.out (w' := w_18) fun b hm => (hw_478).block b (kSchema_ok.olt OW_469.out b hm) (fun hc => by have := HL_257.out b hm; have := HH_258.out b hm; have := HL_229.out b hc; have := HH_230.out b hc; omega)); clear OW_469
    have hz_491 : w_11.heap.size ≤ w_18.heap.size := Nat.le_trans hz_470 hz_479
    have OW_492 := Lib.hid (kSchema_ok.oframe OW_471.out (w' := w_18) fun b hm => (hw_478).block b (kSchema_ok.olt OW_471.out b hm) (fun hc => by have := HL_292.out b hm; have := HH_293.out b hm; have := HL_229.out b hc; have := HH_230.out b hc; omega)); clear OW_471
    have hz_493 : w_12.heap.size ≤ w_18.heap.size := Nat.le_trans hz_472 hz_479
    clear hw_478
    have hz_494 : w_10.heap.size ≤ w_18.heap.size := by omega
    have hm_495 := mark_Schema (w := w_18) q_474 OW_490.out HN_259.out (by omega) (by have := kSchema_ok.cwt a0; have := kSchema_ok.cwt a1; have := HT.out; have e0 : kSchema.s ≤ 8 := (by decide); have e1 : kSchema.s ≤ 8 := (by decide); have := HQ_476.out; omega)
    have hqq_496 : ∃ z : Nat, q_474 + kSchema.cnt a1 = z := ⟨_, rfl⟩
    obtain ⟨q_496, hq_496⟩ := hqq_496
    rw [hq_496] at hm_495
    have bq_496 : 1 ≤ q_496 := by omega
    have HM_497 := Lib.hid hm_495; clear hm_495
    have HQ_498 := Lib.hid hq_496; clear hq_496
    go_wp2_with fail
    refine HM_497.out.mono ?_
    rintro e w_19 ⟨rfl, ho, hw⟩
    have OW_499 := Lib.hid ho; clear ho
    have hw_500 := hw; clear hw
    have hz_501 : w_18.heap.size ≤ w_19.heap.size := by have := (hw_500).size; first | omega | (simp at this; omega)
    have HB_502 := Lib.hid (Below.trans HB_480.out (Wrote.below hw_500 (by first | omega | (simp; done) | (simp; omega)) (fun b hm => by have := HL_257.out b hm; omega)))
    have hz_503 : w.heap.size + 2 ≤ w_19.heap.size := Nat.le_trans hz_481 hz_501
    have c_504 : w_19.cell? ⟨w.heap.size, 0, none⟩ = some (.slice ea0_0 a0.length ecap0_0) := Wrote.cell (hw_500) c_482 (fun hm => by have := HL_257.out _ hm; have := HH_258.out _ hm; omega); clear c_482
    have c_505 : w_19.cell? ⟨w.heap.size + 1, 0, none⟩ = some (.slice ea1_0 a1.length ecap1_0) := Wrote.cell (hw_500) c_483 (fun hm => by have := HL_257.out _ hm; have := HH_258.out _ hm; omega); clear c_483
    have c_506 : w_19.cell? ⟨B8, 0, none⟩ = some (.slice ec0_8 r0.length cc0_8) := Wrote.cell (hw_500) c_484 (fun hm => by have := HL_257.out _ hm; have := HH_258.out _ hm; omega); clear c_484
    have c_507 : w_19.cell? ⟨w_10.heap.size, 0, none⟩ = some (.slice ea0_227 a0.length ecap0_227) := Wrote.cell (hw_500) c_485 (fun hm => by have := HL_257.out _ hm; have := HH_258.out _ hm; omega); clear c_485
    have c_508 : w_19.cell? ⟨w_11.heap.size, 0, none⟩ = some (.slice ea0_255 a1.length ecap0_255) := Wrote.cell (hw_500) c_486 (fun hm => by have := HL_257.out _ hm; have := HH_258.out _ hm; omega); clear c_486
    have c_509 : w_19.cell? ⟨w_12.heap.size, 0, none⟩ = some (.slice ea0_289 r0.length ecap0_289) := Wrote.cell (hw_500) c_487 (fun hm => by have := HL_257.out _ hm; have := HH_258.out _ hm; omega); clear c_487
    have RD_510 := Lib.hid (kSchema_ok.rbelow RD_488.out (Wrote.below hw_500 (by first | omega | (simp; done) | (simp; omega)) (fun b hm => by have := HL_257.out b hm; omega))); clear RD_488
    have hz_511 : wc8.heap.size ≤ w_19.heap.size := Nat.le_trans hz_489 hz_501
    have OW_512 := Lib.hid (kSchema_ok.oframe OW_477.out (w' := w_19) fun b hm => (hw_500).block b (kSchema_ok.olt OW_477.out b hm) (fun hc => by have := HL_229.out b hm; have := HH_230.out b hm; have := HL_257.out b hc; have := HH_258.out b hc; omega)); clear OW_477
    have hz_513 : w_10.heap.size ≤ w_19.heap.size := Nat.le_trans hz_494 hz_501
    have OW_514 := Lib.hid (kSchema_ok.oframe OW_492.out (w' := w_19) fun b hm => (hw_500).block b (kSchema_ok.olt OW_492.out b hm) (fun hc => by have := HL_292.out b hm; have := HH_293.out b hm; have := HL_257.out b hc; have := HH_258.out b hc; omega)); clear OW_492
    have hz_515 : w_12.heap.size ≤ w_19.heap.size := Nat.le_trans hz_493 hz_501
    clear hw_500
    have hz_516 : w_11.heap.size ≤ w_19.heap.size := by omega
    have hneg : ¬ ((q_496 : Int) < 0) := by omega
    go_wp2_with fail
    refine (eq_Schema (w := w_19) (kSchema_ok.ord OW_514.out (fun b hm => by have := HH_293.out b hm; first | omega | (simp; done) | (simp; omega))) (kSchema_ok.rmono RD_510.out (by first | omega | (simp; done) | (simp; omega)))).mono ?_
    rintro e w_20 ⟨rfl, hb⟩
    have hb_517 := hb; clear hb
    have hz_518 : w_19.heap.size ≤ w_20.heap.size := by have := (hb_517).size; first | omega | (simp at this; omega)
    have HB_519 := Lib.hid (box2_step HB_502.out hb_517)
    have hz_520 : w.heap.size + 2 ≤ w_20.heap.size := Nat.le_trans hz_503 hz_518
    have c_521 : w_20.cell? ⟨w.heap.size, 0, none⟩ = some (.slice ea0_0 a0.length ecap0_0) := below_later (hb_517) c_504; clear c_504
    have c_522 : w_20.cell? ⟨w.heap.size + 1, 0, none⟩ = some (.slice ea1_0 a1.length ecap1_0) := below_later (hb_517) c_505; clear c_505
    have c_523 : w_20.cell? ⟨B8, 0, none⟩ = some (.slice ec0_8 r0.length cc0_8) := below_later (hb_517) c_506; clear c_506
    have c_524 : w_20.cell? ⟨w_10.heap.size, 0, none⟩ = some (.slice ea0_227 a0.length ecap0_227) := below_later (hb_517) c_507; clear c_507
    have c_525 : w_20.cell? ⟨w_11.heap.size, 0, none⟩ = some (.slice ea0_255 a1.length ecap0_255) := below_later (hb_517) c_508; clear c_508
    have c_526 : w_20.cell? ⟨w_12.heap.size, 0, none⟩ = some (.slice ea0_289 r0.length ecap0_289) := below_later (hb_517) c_509; clear c_509
    have RD_527 := Lib.hid (kSchema_ok.rbelow RD_510.out (Below.mono (hb_517) (by first | omega | (simp; done) | (simp; omega)))); clear RD_510
    have hz_528 : wc8.heap.size ≤ w_20.heap.size := Nat.le_trans hz_511 hz_518
    have OW_529 := Lib.hid (kSchema_ok.oframe OW_512.out (w' := w_20) fun b hm => (hb_517).block b (kSchema_ok.olt OW_512.out b hm)); clear OW_512
    have hz_530 : w_10.heap.size ≤ w_20.heap.size := Nat.le_trans hz_513 hz_518
    have OW_531 := Lib.hid (kSchema_ok.oframe OW_499.out (w' := w_20) fun b hm => (hb_517).block b (kSchema_ok.olt OW_499.out b hm)); clear OW_499
    have hz_532 : w_11.heap.size ≤ w_20.heap.size := Nat.le_trans hz_516 hz_518
    have OW_533 := Lib.hid (kSchema_ok.oframe OW_514.out (w' := w_20) fun b hm => (hb_517).block b (kSchema_ok.olt OW_514.out b hm)); clear OW_514
    have hz_534 : w_12.heap.size ≤ w_20.heap.size := Nat.le_trans hz_515 hz_518
    clear hb_517
    have hm_535 := mark_Schema (w := w_20) 1 OW_533.out HN_294.out (by omega) (by have := HCN.out; omega)
    rw [show ((1 : Nat) : Int) = 1 from rfl] at hm_535
    have hqq_536 : ∃ z : Nat, 1 + kSchema.cnt r0 = z := ⟨_, rfl⟩
    obtain ⟨q_536, hq_536⟩ := hqq_536
    rw [hq_536] at hm_535
    have HM_537 := Lib.hid hm_535; clear hm_535
    have HQ_538 := Lib.hid hq_536; clear hq_536
    go_wp2_with fail
    refine HM_537.out.mono ?_
    rintro e w_21 ⟨rfl, ho, hw⟩
    have OW_539 := Lib.hid ho; clear ho
    have hw_540 := hw; clear hw
    have hz_541 : w_20.heap.size ≤ w_21.heap.size := by have := (hw_540).size; first | omega | (simp at this; omega)
    have HB_542 := Lib.hid (Below.trans HB_519.out (Wrote.below hw_540 (by first | omega | (simp; done) | (simp; omega)) (fun b hm => by have := HL_292.out b hm; omega)))
    have hz_543 : w.heap.size + 2 ≤ w_21.heap.size := Nat.le_trans hz_520 hz_541
    have c_544 : w_21.cell? ⟨w.heap.size, 0, none⟩ = some (.slice ea0_0 a0.length ecap0_0) := Wrote.cell (hw_540) c_521 (fun hm => by have := HL_292.out _ hm; have := HH_293.out _ hm; omega); clear c_521
    have c_545 : w_21.cell? ⟨w.heap.size + 1, 0, none⟩ = some (.slice ea1_0 a1.length ecap1_0) := Wrote.cell (hw_540) c_522 (fun hm => by have := HL_292.out _ hm; have := HH_293.out _ hm; omega); clear c_522
    have c_546 : w_21.cell? ⟨B8, 0, none⟩ = some (.slice ec0_8 r0.length cc0_8) := Wrote.cell (hw_540) c_523 (fun hm => by have := HL_292.out _ hm; have := HH_293.out _ hm; omega); clear c_523
    have c_547 : w_21.cell? ⟨w_10.heap.size, 0, none⟩ = some (.slice ea0_227 a0.length ecap0_227) := Wrote.cell (hw_540) c_524 (fun hm => by have := HL_292.out _ hm; have := HH_293.out _ hm; omega); clear c_524
    have c_548 : w_21.cell? ⟨w_11.heap.size, 0, none⟩ = some (.slice ea0_255 a1.length ecap0_255) := Wrote.cell (hw_540) c_525 (fun hm => by have := HL_292.out _ hm; have := HH_293.out _ hm; omega); clear c_525
    have c_549 : w_21.cell? ⟨w_12.heap.size, 0, none⟩ = some (.slice ea0_289 r0.length ecap0_289) := Wrote.cell (hw_540) c_526 (fun hm => by have := HL_292.out _ hm; have := HH_293.out _ hm; omega); clear c_526
    have RD_550 := Lib.hid (kSchema_ok.rbelow RD_527.out (Wrote.below hw_540 (by first | omega | (simp; done) | (simp; omega)) (fun b hm => by have := HL_292.out b hm; omega))); clear RD_527
    have hz_551 : wc8.heap.size ≤ w_21.heap.size := Nat.le_trans hz_528 hz_541
    have OW_552 := Lib.hid (kSchema_ok.oframe OW_529.out (w' := w_21) fun b hm => (hw_540).block b (kSchema_ok.olt OW_529.out b hm) (fun hc => by have := HL_229.out b hm; have := HH_230.out b hm; have := HL_292.out b hc; have := HH_293.out b hc; omega)); clear OW_529
    have hz_553 : w_10.heap.size ≤ w_21.heap.size := Nat.le_trans hz_530 hz_541
    have OW_554 := Lib.hid (kSchema_ok.oframe OW_531.out (w' := w_21) fun b hm => (hw_540).block b (kSchema_ok.olt OW_531.out b hm) (fun hc => by have := HL_257.out b hm; have := HH_258.out b hm; have := HL_292.out b hc; have := HH_293.out b hc; omega)); clear OW_531
    have hz_555 : w_11.heap.size ≤ w_21.heap.size := Nat.le_trans hz_532 hz_541
    clear hw_540
    have hz_556 : w_12.heap.size ≤ w_21.heap.size := by omega
    have hm_557 := held_Schema (w := w_21) (x := r0) 1 (kSchema_ok.ord OW_539.out (fun b hm => by have := HH_293.out b hm; first | omega | (simp; done) | (simp; omega))) (by omega) (by have := HCN.out; omega)
    rw [show ((1 : Nat) : Int) = 1 from rfl, HQ_538.out] at hm_557
    have HM_558 := Lib.hid hm_557; clear hm_557
    go_wp2_with fail
    refine HM_558.out.mono ?_
    rintro e w_22 ⟨rfl, hb⟩
    have hb_559 := hb; clear hb
    have hz_560 : w_21.heap.size ≤ w_22.heap.size := by have := (hb_559).size; first | omega | (simp at this; omega)
    have HB_561 := Lib.hid (box2_step HB_542.out hb_559)
    have hz_562 : w.heap.size + 2 ≤ w_22.heap.size := Nat.le_trans hz_543 hz_560
    have c_563 : w_22.cell? ⟨w.heap.size, 0, none⟩ = some (.slice ea0_0 a0.length ecap0_0) := below_later (hb_559) c_544; clear c_544
    have c_564 : w_22.cell? ⟨w.heap.size + 1, 0, none⟩ = some (.slice ea1_0 a1.length ecap1_0) := below_later (hb_559) c_545; clear c_545
    have c_565 : w_22.cell? ⟨B8, 0, none⟩ = some (.slice ec0_8 r0.length cc0_8) := below_later (hb_559) c_546; clear c_546
    have c_566 : w_22.cell? ⟨w_10.heap.size, 0, none⟩ = some (.slice ea0_227 a0.length ecap0_227) := below_later (hb_559) c_547; clear c_547
    have c_567 : w_22.cell? ⟨w_11.heap.size, 0, none⟩ = some (.slice ea0_255 a1.length ecap0_255) := below_later (hb_559) c_548; clear c_548
    have c_568 : w_22.cell? ⟨w_12.heap.size, 0, none⟩ = some (.slice ea0_289 r0.length ecap0_289) := below_later (hb_559) c_549; clear c_549
    have RD_569 := Lib.hid (kSchema_ok.rbelow RD_550.out (Below.mono (hb_559) (by first | omega | (simp; done) | (simp; omega)))); clear RD_550
    have hz_570 : wc8.heap.size ≤ w_22.heap.size := Nat.le_trans hz_551 hz_560
    have OW_571 := Lib.hid (kSchema_ok.oframe OW_552.out (w' := w_22) fun b hm => (hb_559).block b (kSchema_ok.olt OW_552.out b hm)); clear OW_552
    have hz_572 : w_10.heap.size ≤ w_22.heap.size := Nat.le_trans hz_553 hz_560
    have OW_573 := Lib.hid (kSchema_ok.oframe OW_554.out (w' := w_22) fun b hm => (hb_559).block b (kSchema_ok.olt OW_554.out b hm)); clear OW_554
    have hz_574 : w_11.heap.size ≤ w_22.heap.size := Nat.le_trans hz_555 hz_560
    have OW_575 := Lib.hid (kSchema_ok.oframe OW_539.out (w' := w_22) fun b hm => (hb_559).block b (kSchema_ok.olt OW_539.out b hm)); clear OW_539
    have hz_576 : w_12.heap.size ≤ w_22.heap.size := Nat.le_trans hz_556 hz_560
    clear hb_559
    have hneg_577 : ¬ ((q_536 : Int) < 0) := by omega
    go_wp2_with fail
    go_cut [15, 16] (fun s15 s16 wx => ∃ (B : Nat) (ec0 : Option Addr) (cc0 : Nat), s15 = .pointer (some ⟨B, 0, none⟩) ∧ s16 = .bool r1 ∧ Hid (wx.cell? ⟨B, 0, none⟩ = some (.slice ec0 r0.length cc0) ∧ kSchema.rd wx.heap.size wx [.slice ec0 r0.length cc0] r0 ∧ Below w_22.heap.size w_22 wx ∧ w_22.heap.size ≤ B ∧ B < wx.heap.size))
    case first =>
      have HBASE := Lib.hid (Below.refl w_22.heap.size w_22)
      have hb_578 : Below w_22.heap.size w_22 w_22.drew := (Below.refl _ _).drew
      have hz_579 : w_22.heap.size ≤ w_22.heap.size := by have := (hb_578).size; first | omega | (simp at this; omega)
      have HB_580 := Lib.hid (box2_step HB_561.out hb_578)
      have hz_581 : w.heap.size + 2 ≤ w_22.heap.size := Nat.le_trans hz_562 hz_579
      have c_582 : w_22.drew.cell? ⟨w.heap.size, 0, none⟩ = some (.slice ea0_0 a0.length ecap0_0) := below_later (hb_578) c_563; clear c_563
      have c_583 : w_22.drew.cell? ⟨w.heap.size + 1, 0, none⟩ = some (.slice ea1_0 a1.length ecap1_0) := below_later (hb_578) c_564; clear c_564
      have c_584 : w_22.drew.cell? ⟨B8, 0, none⟩ = some (.slice ec0_8 r0.length cc0_8) := below_later (hb_578) c_565; clear c_565
      have c_585 : w_22.drew.cell? ⟨w_10.heap.size, 0, none⟩ = some (.slice ea0_227 a0.length ecap0_227) := below_later (hb_578) c_566; clear c_566
      have c_586 : w_22.drew.cell? ⟨w_11.heap.size, 0, none⟩ = some (.slice ea0_255 a1.length ecap0_255) := below_later (hb_578) c_567; clear c_567
      have c_587 : w_22.drew.cell? ⟨w_12.heap.size, 0, none⟩ = some (.slice ea0_289 r0.length ecap0_289) := below_later (hb_578) c_568; clear c_568
      have RD_588 := Lib.hid (kSchema_ok.rbelow RD_569.out (Below.mono (hb_578) (by first | omega | (simp; done) | (simp; omega)))); clear RD_569
      have hz_589 : wc8.heap.size ≤ w_22.heap.size := Nat.le_trans hz_570 hz_579
      have OW_590 := Lib.hid (kSchema_ok.oframe OW_571.out (w' := w_22.drew) fun b hm => (hb_578).block b (kSchema_ok.olt OW_571.out b hm)); clear OW_571
      have hz_591 : w_10.heap.size ≤ w_22.heap.size := Nat.le_trans hz_572 hz_579
      have OW_592 := Lib.hid (kSchema_ok.oframe OW_573.out (w' := w_22.drew) fun b hm => (hb_578).block b (kSchema_ok.olt OW_573.out b hm)); clear OW_573
      have hz_593 : w_11.heap.size ≤ w_22.heap.size := Nat.le_trans hz_574 hz_579
      have OW_594 := Lib.hid (kSchema_ok.oframe OW_575.out (w' := w_22.drew) fun b hm => (hb_578).block b (kSchema_ok.olt OW_575.out b hm)); clear OW_575
      have hz_595 : w_12.heap.size ≤ w_22.heap.size := Nat.le_trans hz_576 hz_579
      have HBASE_596 := Lib.hid (rstep HBASE.out hb_578); clear hb_578
      refine wp_region_G [3] (fun w' => w'.cell? ⟨w.heap.size, 0, none⟩ = some (.slice ea0_0 a0.length ecap0_0) ∧ w'.cell? ⟨w.heap.size + 1, 0, none⟩ = some (.slice ea1_0 a1.length ecap1_0)) (by kernel_rfl) ?_ (fun hHeld => ?_)
      · exact ⟨c_582, c_583⟩
      refine wpG_load (i := 0) (oi := { dst := some 95, op := Go.Op.load 24 (Go.Operand.tmp 2), type := 24, pos := "exact.go:5342", after := #[], guard := none }) (v := ?vg1037001) [[3, 1, 0]] rfl (by kernel_rfl) (fun _ _ _ h => h) hHeld (Or.inl ⟨by rfl, ?yg1037001⟩) ?_
      case yg1037001 => (intro wS hSw; (try dsimp only at hSw); go_simp <;> with_reducible rfl)
      try simp only [Act.put, List.setIfInBounds_toArray, List.set_cons_zero, List.set_cons_succ]
      refine wpG_load (i := 2) (oi := { dst := some 97, op := Go.Op.load 24 (Go.Operand.tmp 3), type := 24, pos := "exact.go:5342", after := #[], guard := none }) (v := ?vg1037002) [[3, 2]] rfl (by kernel_rfl) (fun _ _ _ h => h) hHeld (Or.inl ⟨by rfl, ?yg1037002⟩) ?_
      case yg1037002 => (intro wS hSw; (try dsimp only at hSw); go_simp <;> with_reducible rfl)
      try simp only [Act.put, List.setIfInBounds_toArray, List.set_cons_zero, List.set_cons_succ]
      refine wpG_two (i := 1) (j := 8) (o := { dst := some 96, op := Go.Op.call { callee := Go.Callee.value (Go.Operand.func 8), args := #[Go.Operand.tmp 95], argTypes := #[24] }, type := 28, pos := "exact.go:5342", after := #[{ on := 0, ground := Go.Ground.data }], guard := none }) (o' := { dst := some 15, op := Go.Op.alloc 28, type := 0, pos := "exact.go:5342", after := #[], guard := none }) rfl rfl (by kernel_rfl) (fun K hK => ?_) (fun K hK => ?_)
      · skip
        go_simp
        refine (HTO0.out _ (box2_below HB_580.out)).mono ?_
        rintro e w_23 ⟨cs_597, fp_597, he, ho, hnd, hge, hb⟩
        have hrd := kSchema_ok.ord ho (B := w_23.heap.size) (kSchema_ok.olt ho)
        obtain ⟨ea0_597, ecap0_597, rfl, _⟩ := Schema_rd hrd
        change e = .returned (.agg #[.slice ea0_597 a0.length ecap0_597]) at he
        subst he
        have hrd2 := kSchema_ok.ord ho (B := w_23.heap.size) (kSchema_ok.olt ho)
        have OW_598 := Lib.hid ho; have HN_601 := Lib.hid hnd
        have HL_599 : Hid (∀ b ∈ fp_597, w_22.heap.size ≤ b) := Lib.hid fun b hm => by have := hge b hm; first | omega | (simp at this; omega)
        have HH_600 : Hid (∀ b ∈ fp_597, b < w_23.heap.size) := Lib.hid (kSchema_ok.olt ho)
        have RD_602 := Lib.hid hrd2; clear ho hnd hge hrd2 hrd
        have hb_603 := hb; clear hb
        have hz_604 : w_22.heap.size ≤ w_23.heap.size := by have := (hb_603).size; first | omega | (simp at this; omega)
        have HB_605 := Lib.hid (box2_step HB_580.out hb_603)
        have hz_606 : w.heap.size + 2 ≤ w_23.heap.size := Nat.le_trans hz_581 hz_604
        have c_607 : w_23.cell? ⟨w.heap.size, 0, none⟩ = some (.slice ea0_0 a0.length ecap0_0) := below_later (hb_603) c_582; clear c_582
        have c_608 : w_23.cell? ⟨w.heap.size + 1, 0, none⟩ = some (.slice ea1_0 a1.length ecap1_0) := below_later (hb_603) c_583; clear c_583
        have c_609 : w_23.cell? ⟨B8, 0, none⟩ = some (.slice ec0_8 r0.length cc0_8) := below_later (hb_603) c_584; clear c_584
        have c_610 : w_23.cell? ⟨w_10.heap.size, 0, none⟩ = some (.slice ea0_227 a0.length ecap0_227) := below_later (hb_603) c_585; clear c_585
        have c_611 : w_23.cell? ⟨w_11.heap.size, 0, none⟩ = some (.slice ea0_255 a1.length ecap0_255) := below_later (hb_603) c_586; clear c_586
        have c_612 : w_23.cell? ⟨w_12.heap.size, 0, none⟩ = some (.slice ea0_289 r0.length ecap0_289) := below_later (hb_603) c_587; clear c_587
        have RD_613 := Lib.hid (kSchema_ok.rbelow RD_588.out (Below.mono (hb_603) (by first | omega | (simp; done) | (simp; omega)))); clear RD_588
        have hz_614 : wc8.heap.size ≤ w_23.heap.size := Nat.le_trans hz_589 hz_604
        have OW_615 := Lib.hid (kSchema_ok.oframe OW_590.out (w' := w_23) fun b hm => (hb_603).block b (kSchema_ok.olt OW_590.out b hm)); clear OW_590
        have hz_616 : w_10.heap.size ≤ w_23.heap.size := Nat.le_trans hz_591 hz_604
        have OW_617 := Lib.hid (kSchema_ok.oframe OW_592.out (w' := w_23) fun b hm => (hb_603).block b (kSchema_ok.olt OW_592.out b hm)); clear OW_592
        have hz_618 : w_11.heap.size ≤ w_23.heap.size := Nat.le_trans hz_593 hz_604
        have OW_619 := Lib.hid (kSchema_ok.oframe OW_594.out (w' := w_23) fun b hm => (hb_603).block b (kSchema_ok.olt OW_594.out b hm)); clear OW_594
        have hz_620 : w_12.heap.size ≤ w_23.heap.size := Nat.le_trans hz_595 hz_604
        have HBLAST := Lib.hid hb_603
        have HQ := Lib.hid hb_603; clear hb_603 HQ
        have hz_621 : w_23.heap.size ≤ w_23.heap.size := Nat.le_refl _
        have HBASE_622 := Lib.hid (rstep HBASE_596.out HBLAST.out); clear HBLAST
        refine hK.out _ _ (Or.inr ?khHeld1037003) (fun hHeld1037003S => ?_)
        case khHeld1037003 => exact ⟨c_607, c_608⟩
        have hHeld1037003 := hHeld1037003S.held (by kernel_rfl)
        clear hK K
        try simp only [Act.put, List.setIfInBounds_toArray, List.set_cons_zero, List.set_cons_succ]
        refine wpG_two (i := 3) (j := 8) (o := { dst := some 98, op := Go.Op.call { callee := Go.Callee.value (Go.Operand.func 8), args := #[Go.Operand.tmp 97], argTypes := #[24] }, type := 28, pos := "exact.go:5342", after := #[{ on := 2, ground := Go.Ground.data }, { on := 1, ground := Go.Ground.chain }], guard := none }) (o' := { dst := some 15, op := Go.Op.alloc 28, type := 0, pos := "exact.go:5342", after := #[], guard := none }) rfl rfl (by kernel_rfl) (fun K hK => ?_) (fun K hK => ?_)
        · skip
          go_simp
          refine (HTO1.out _ (box2_below HB_605.out)).mono ?_
          rintro e w_24 ⟨cs_623, fp_623, he, ho, hnd, hge, hb⟩
          have hrd := kSchema_ok.ord ho (B := w_24.heap.size) (kSchema_ok.olt ho)
          obtain ⟨ea0_623, ecap0_623, rfl, _⟩ := Schema_rd hrd
          change e = .returned (.agg #[.slice ea0_623 a1.length ecap0_623]) at he
          subst he
          have hrd2 := kSchema_ok.ord ho (B := w_24.heap.size) (kSchema_ok.olt ho)
          have OW_624 := Lib.hid ho; have HN_627 := Lib.hid hnd
          have HL_625 : Hid (∀ b ∈ fp_623, w_23.heap.size ≤ b) := Lib.hid fun b hm => by have := hge b hm; first | omega | (simp at this; omega)
          have HH_626 : Hid (∀ b ∈ fp_623, b < w_24.heap.size) := Lib.hid (kSchema_ok.olt ho)
          have RD_628 := Lib.hid hrd2; clear ho hnd hge hrd2 hrd
          have hb_629 := hb; clear hb
          have hz_630 : w_23.heap.size ≤ w_24.heap.size := by have := (hb_629).size; first | omega | (simp at this; omega)
          have HB_631 := Lib.hid (box2_step HB_605.out hb_629)
          have hz_632 : w.heap.size + 2 ≤ w_24.heap.size := Nat.le_trans hz_606 hz_630
          have c_633 : w_24.cell? ⟨w.heap.size, 0, none⟩ = some (.slice ea0_0 a0.length ecap0_0) := below_later (hb_629) c_607; clear c_607
          have c_634 : w_24.cell? ⟨w.heap.size + 1, 0, none⟩ = some (.slice ea1_0 a1.length ecap1_0) := below_later (hb_629) c_608; clear c_608
          have c_635 : w_24.cell? ⟨B8, 0, none⟩ = some (.slice ec0_8 r0.length cc0_8) := below_later (hb_629) c_609; clear c_609
          have c_636 : w_24.cell? ⟨w_10.heap.size, 0, none⟩ = some (.slice ea0_227 a0.length ecap0_227) := below_later (hb_629) c_610; clear c_610
          have c_637 : w_24.cell? ⟨w_11.heap.size, 0, none⟩ = some (.slice ea0_255 a1.length ecap0_255) := below_later (hb_629) c_611; clear c_611
          have c_638 : w_24.cell? ⟨w_12.heap.size, 0, none⟩ = some (.slice ea0_289 r0.length ecap0_289) := below_later (hb_629) c_612; clear c_612
          have RD_639 := Lib.hid (kSchema_ok.rbelow RD_613.out (Below.mono (hb_629) (by first | omega | (simp; done) | (simp; omega)))); clear RD_613
          have hz_640 : wc8.heap.size ≤ w_24.heap.size := Nat.le_trans hz_614 hz_630
          have RD_641 := Lib.hid (kSchema_ok.rbelow RD_602.out (Below.mono (hb_629) (by first | omega | (simp; done) | (simp; omega)))); clear RD_602
          have hz_642 : w_23.heap.size ≤ w_24.heap.size := Nat.le_trans hz_621 hz_630
          have OW_643 := Lib.hid (kSchema_ok.oframe OW_615.out (w' := w_24) fun b hm => (hb_629).block b (kSchema_ok.olt OW_615.out b hm)); clear OW_615
          have hz_644 : w_10.heap.size ≤ w_24.heap.size := Nat.le_trans hz_616 hz_630
          have OW_645 := Lib.hid (kSchema_ok.oframe OW_617.out (w' := w_24) fun b hm => (hb_629).block b (kSchema_ok.olt OW_617.out b hm)); clear OW_617
          have hz_646 : w_11.heap.size ≤ w_24.heap.size := Nat.le_trans hz_618 hz_630
          have OW_647 := Lib.hid (kSchema_ok.oframe OW_619.out (w' := w_24) fun b hm => (hb_629).block b (kSchema_ok.olt OW_619.out b hm)); clear OW_619
          have hz_648 : w_12.heap.size ≤ w_24.heap.size := Nat.le_trans hz_620 hz_630
          have HBLAST := Lib.hid hb_629
          have HQ := Lib.hid hb_629; clear hb_629 HQ
          have hz_649 : w_24.heap.size ≤ w_24.heap.size := Nat.le_refl _
          have HBASE_650 := Lib.hid (rstep HBASE_622.out HBLAST.out); clear HBLAST
          refine hK.out _ _ (Or.inl (by kernel_rfl)) (fun _ => ?_)
          clear hK K
          try simp only [Act.put, List.setIfInBounds_toArray, List.set_cons_zero, List.set_cons_succ]
          refine wpG_two (i := 4) (j := 8) (o := { dst := some 99, op := Go.Op.call { callee := Go.Callee.value (Go.Operand.func 9), args := #[Go.Operand.tmp 96, Go.Operand.tmp 98], argTypes := #[28, 28] }, type := 29, pos := "exact.go:5342", after := #[{ on := 1, ground := Go.Ground.data }, { on := 3, ground := Go.Ground.data }, { on := 3, ground := Go.Ground.chain }], guard := none }) (o' := { dst := some 15, op := Go.Op.alloc 28, type := 0, pos := "exact.go:5342", after := #[], guard := none }) rfl rfl (by kernel_rfl) (fun K hK => ?_) (fun K hK => ?_)
          · skip
            go_simp
            refine (HI.out _ [.slice ea0_597 a0.length ecap0_597] [.slice ea0_623 a1.length ecap0_623] (kSchema_ok.rmono RD_641.out (by first | omega | (simp; done) | (simp; omega))) (kSchema_ok.rmono RD_628.out (by first | omega | (simp; done) | (simp; omega)))).mono ?_
            rintro e w_25 ⟨cs_651, fp_651, he, ho, hnd, hge, hb⟩
            have hrd := kSchema_ok.ord ho (B := w_25.heap.size) (kSchema_ok.olt ho)
            obtain ⟨ea0_651, ecap0_651, rfl⟩ : ∃ ea0_651 ecap0_651, cs_651 = [.slice ea0_651 r0.length ecap0_651] := by
              obtain ⟨ea0_651, ecap0_651, h, _⟩ := Schema_rd hrd
              exact ⟨ea0_651, ecap0_651, h⟩
            change e = .returned (.tuple #[(.agg #[.slice ea0_651 r0.length ecap0_651]), (.bool r1)]) at he
            subst he
            have RD_652 := Lib.hid hrd; clear hrd
            have OW_653 := Lib.hid ho; have HN_656 := Lib.hid hnd
            have HL_654 : Hid (∀ b ∈ fp_651, w_24.heap.size ≤ b) := Lib.hid fun b hm => by have := hge b hm; first | omega | (simp at this; omega)
            have HH_655 : Hid (∀ b ∈ fp_651, b < w_25.heap.size) := Lib.hid (kSchema_ok.olt ho)
            clear ho hnd hge
            have hb_657 := hb; clear hb
            have hz_658 : w_24.heap.size ≤ w_25.heap.size := by have := (hb_657).size; first | omega | (simp at this; omega)
            have HB_659 := Lib.hid (box2_step HB_631.out hb_657)
            have hz_660 : w.heap.size + 2 ≤ w_25.heap.size := Nat.le_trans hz_632 hz_658
            have c_661 : w_25.cell? ⟨w.heap.size, 0, none⟩ = some (.slice ea0_0 a0.length ecap0_0) := below_later (hb_657) c_633; clear c_633
            have c_662 : w_25.cell? ⟨w.heap.size + 1, 0, none⟩ = some (.slice ea1_0 a1.length ecap1_0) := below_later (hb_657) c_634; clear c_634
            have c_663 : w_25.cell? ⟨B8, 0, none⟩ = some (.slice ec0_8 r0.length cc0_8) := below_later (hb_657) c_635; clear c_635
            have c_664 : w_25.cell? ⟨w_10.heap.size, 0, none⟩ = some (.slice ea0_227 a0.length ecap0_227) := below_later (hb_657) c_636; clear c_636
            have c_665 : w_25.cell? ⟨w_11.heap.size, 0, none⟩ = some (.slice ea0_255 a1.length ecap0_255) := below_later (hb_657) c_637; clear c_637
            have c_666 : w_25.cell? ⟨w_12.heap.size, 0, none⟩ = some (.slice ea0_289 r0.length ecap0_289) := below_later (hb_657) c_638; clear c_638
            have RD_667 := Lib.hid (kSchema_ok.rbelow RD_639.out (Below.mono (hb_657) (by first | omega | (simp; done) | (simp; omega)))); clear RD_639
            have hz_668 : wc8.heap.size ≤ w_25.heap.size := Nat.le_trans hz_640 hz_658
            have RD_669 := Lib.hid (kSchema_ok.rbelow RD_641.out (Below.mono (hb_657) (by first | omega | (simp; done) | (simp; omega)))); clear RD_641
            have hz_670 : w_23.heap.size ≤ w_25.heap.size := Nat.le_trans hz_642 hz_658
            have RD_671 := Lib.hid (kSchema_ok.rbelow RD_628.out (Below.mono (hb_657) (by first | omega | (simp; done) | (simp; omega)))); clear RD_628
            have hz_672 : w_24.heap.size ≤ w_25.heap.size := Nat.le_trans hz_649 hz_658
            have OW_673 := Lib.hid (kSchema_ok.oframe OW_643.out (w' := w_25) fun b hm => (hb_657).block b (kSchema_ok.olt OW_643.out b hm)); clear OW_643
            have hz_674 : w_10.heap.size ≤ w_25.heap.size := Nat.le_trans hz_644 hz_658
            have OW_675 := Lib.hid (kSchema_ok.oframe OW_645.out (w' := w_25) fun b hm => (hb_657).block b (kSchema_ok.olt OW_645.out b hm)); clear OW_645
            have hz_676 : w_11.heap.size ≤ w_25.heap.size := Nat.le_trans hz_646 hz_658
            have OW_677 := Lib.hid (kSchema_ok.oframe OW_647.out (w' := w_25) fun b hm => (hb_657).block b (kSchema_ok.olt OW_647.out b hm)); clear OW_647
            have hz_678 : w_12.heap.size ≤ w_25.heap.size := Nat.le_trans hz_648 hz_658
            have HBLAST := Lib.hid hb_657
            clear hb_657
            have hz_679 : w_25.heap.size ≤ w_25.heap.size := Nat.le_refl _
            have HBASE_680 := Lib.hid (rstep HBASE_650.out HBLAST.out); clear HBLAST
            refine hK.out _ _ (Or.inl (by kernel_rfl)) (fun _ => ?_)
            clear hK K
            try simp only [Act.put, List.setIfInBounds_toArray, List.set_cons_zero, List.set_cons_succ]
            refine wpG_pure (i := 5) (oi := { dst := some 94, op := Go.Op.move (Go.Operand.tmp 99), type := 29, pos := "exact.go:5342", after := #[{ on := 4, ground := Go.Ground.data }], guard := none }) (v := ?vg1037006) rfl (by kernel_rfl) (fun _ _ _ h => h) (Or.inl (by kernel_rfl)) (Or.inl ⟨by rfl, ?yg1037006⟩) ?_
            case yg1037006 => (intro wS _; go_simp <;> with_reducible rfl)
            try simp only [Act.put, List.setIfInBounds_toArray, List.set_cons_zero, List.set_cons_succ]
            refine wpG_pure (i := 6) (oi := { dst := some 100, op := Go.Op.extract (Go.Operand.tmp 94) 0, type := 28, pos := "exact.go:5342", after := #[{ on := 5, ground := Go.Ground.data }], guard := none }) (v := ?vg1037007) rfl (by kernel_rfl) (fun _ _ _ h => h) (Or.inl (by kernel_rfl)) (Or.inl ⟨by rfl, ?yg1037007⟩) ?_
            case yg1037007 => (intro wS _; go_simp <;> with_reducible rfl)
            try simp only [Act.put, List.setIfInBounds_toArray, List.set_cons_zero, List.set_cons_succ]
            refine wpG_pure (i := 7) (oi := { dst := some 101, op := Go.Op.extract (Go.Operand.tmp 94) 1, type := 4, pos := "exact.go:5342", after := #[{ on := 5, ground := Go.Ground.data }, { on := 9, ground := Go.Ground.gcOnly Go.Departure.lateStores }], guard := none }) (v := ?vg1037008) rfl (by kernel_rfl) (fun _ _ _ h => h) (Or.inl (by kernel_rfl)) (Or.inl ⟨by rfl, ?yg1037008⟩) ?_
            case yg1037008 => (intro wS _; go_simp <;> with_reducible rfl)
            try simp only [Act.put, List.setIfInBounds_toArray, List.set_cons_zero, List.set_cons_succ]
            refine wpG_one (i := 8) (o := { dst := some 15, op := Go.Op.alloc 28, type := 0, pos := "exact.go:5342", after := #[], guard := none }) rfl (by kernel_rfl) (fun K hK => ?_)
            go_simp
            have hb_681 : Below w_25.heap.size w_25 (w_25.alloc (.cells #[Value.slice none 0 0] 28)) := (Below.refl _ _).alloc (Nat.le_refl _) _
            have hz_682 : w_25.heap.size ≤ w_25.heap.size + 1 := by have := (hb_681).size; first | omega | (simp at this; omega)
            have HB_683 := Lib.hid (box2_step HB_659.out hb_681)
            have hz_684 : w.heap.size + 2 ≤ w_25.heap.size + 1 := Nat.le_trans hz_660 hz_682
            have c_685 : (w_25.alloc (.cells #[Value.slice none 0 0] 28)).cell? ⟨w.heap.size, 0, none⟩ = some (.slice ea0_0 a0.length ecap0_0) := below_later (hb_681) c_661; clear c_661
            have c_686 : (w_25.alloc (.cells #[Value.slice none 0 0] 28)).cell? ⟨w.heap.size + 1, 0, none⟩ = some (.slice ea1_0 a1.length ecap1_0) := below_later (hb_681) c_662; clear c_662
            have c_687 : (w_25.alloc (.cells #[Value.slice none 0 0] 28)).cell? ⟨B8, 0, none⟩ = some (.slice ec0_8 r0.length cc0_8) := below_later (hb_681) c_663; clear c_663
            have c_688 : (w_25.alloc (.cells #[Value.slice none 0 0] 28)).cell? ⟨w_10.heap.size, 0, none⟩ = some (.slice ea0_227 a0.length ecap0_227) := below_later (hb_681) c_664; clear c_664
            have c_689 : (w_25.alloc (.cells #[Value.slice none 0 0] 28)).cell? ⟨w_11.heap.size, 0, none⟩ = some (.slice ea0_255 a1.length ecap0_255) := below_later (hb_681) c_665; clear c_665
            have c_690 : (w_25.alloc (.cells #[Value.slice none 0 0] 28)).cell? ⟨w_12.heap.size, 0, none⟩ = some (.slice ea0_289 r0.length ecap0_289) := below_later (hb_681) c_666; clear c_666
            have RD_691 := Lib.hid (kSchema_ok.rbelow RD_667.out (Below.mono (hb_681) (by first | omega | (simp; done) | (simp; omega)))); clear RD_667
            have hz_692 : wc8.heap.size ≤ w_25.heap.size + 1 := Nat.le_trans hz_668 hz_682
            have RD_693 := Lib.hid (kSchema_ok.rbelow RD_669.out (Below.mono (hb_681) (by first | omega | (simp; done) | (simp; omega)))); clear RD_669
            have hz_694 : w_23.heap.size ≤ w_25.heap.size + 1 := Nat.le_trans hz_670 hz_682
            have RD_695 := Lib.hid (kSchema_ok.rbelow RD_671.out (Below.mono (hb_681) (by first | omega | (simp; done) | (simp; omega)))); clear RD_671
            have hz_696 : w_24.heap.size ≤ w_25.heap.size + 1 := Nat.le_trans hz_672 hz_682
            have OW_697 := Lib.hid (kSchema_ok.oframe OW_673.out (w' := (w_25.alloc (.cells #[Value.slice none 0 0] 28))) fun b hm => (hb_681).block b (kSchema_ok.olt OW_673.out b hm)); clear OW_673
            have hz_698 : w_10.heap.size ≤ w_25.heap.size + 1 := Nat.le_trans hz_674 hz_682
            have OW_699 := Lib.hid (kSchema_ok.oframe OW_675.out (w' := (w_25.alloc (.cells #[Value.slice none 0 0] 28))) fun b hm => (hb_681).block b (kSchema_ok.olt OW_675.out b hm)); clear OW_675
            have hz_700 : w_11.heap.size ≤ w_25.heap.size + 1 := Nat.le_trans hz_676 hz_682
            have OW_701 := Lib.hid (kSchema_ok.oframe OW_677.out (w' := (w_25.alloc (.cells #[Value.slice none 0 0] 28))) fun b hm => (hb_681).block b (kSchema_ok.olt OW_677.out b hm)); clear OW_677
            have hz_702 : w_12.heap.size ≤ w_25.heap.size + 1 := Nat.le_trans hz_678 hz_682
            have OW_703 := Lib.hid (kSchema_ok.oframe OW_653.out (w' := (w_25.alloc (.cells #[Value.slice none 0 0] 28))) fun b hm => (hb_681).block b (kSchema_ok.olt OW_653.out b hm)); clear OW_653
            have hz_704 : w_25.heap.size ≤ w_25.heap.size + 1 := Nat.le_trans hz_679 hz_682
            have HBASE_705 := Lib.hid (rstep HBASE_680.out hb_681); clear hb_681
            have c_706 : (w_25.alloc (.cells #[Value.slice none 0 0] 28)).cell? ⟨w_25.heap.size, 0, none⟩ = some (Value.slice none 0 0) := by go_simp
            have f_707 : (w_25.alloc (.cells #[Value.slice none 0 0] 28)).frozen? ⟨w_25.heap.size, 0, none⟩ = false := by go_simp
            refine hK.out _ _ (Or.inl (by kernel_rfl)) (fun _ => ?_)
            clear hK K
            try simp only [Act.put, List.setIfInBounds_toArray, List.set_cons_zero, List.set_cons_succ]
            refine wpG_one (i := 9) (o := { dst := none, op := Go.Op.store 28 (Go.Operand.tmp 15) (Go.Operand.tmp 100), type := 0, pos := "exact.go:5342", after := #[{ on := 8, ground := Go.Ground.data }, { on := 6, ground := Go.Ground.data }, { on := 4, ground := Go.Ground.chain }, { on := 0, ground := Go.Ground.phase }, { on := 1, ground := Go.Ground.phase }, { on := 2, ground := Go.Ground.phase }, { on := 3, ground := Go.Ground.phase }, { on := 4, ground := Go.Ground.phase }, { on := 5, ground := Go.Ground.phase }, { on := 6, ground := Go.Ground.phase }, { on := 7, ground := Go.Ground.textOnly Go.Departure.lateStores }, { on := 8, ground := Go.Ground.phase }], guard := none }) rfl (by kernel_rfl) (fun K hK => ?_)
            go_simp
            refine hK.out _ _ (Or.inl (by kernel_rfl)) (fun _ => ?_)
            clear hK K
            try simp only [Act.put, List.setIfInBounds_toArray, List.set_cons_zero, List.set_cons_succ]
            refine wpG_pure (i := 10) (oi := { dst := some 16, op := Go.Op.assign (Go.Operand.tmp 101), type := 4, pos := "exact.go:5342", after := #[{ on := 7, ground := Go.Ground.data }, { on := 9, ground := Go.Ground.chain }, { on := 0, ground := Go.Ground.phase }, { on := 1, ground := Go.Ground.phase }, { on := 2, ground := Go.Ground.phase }, { on := 3, ground := Go.Ground.phase }, { on := 4, ground := Go.Ground.phase }, { on := 5, ground := Go.Ground.phase }, { on := 6, ground := Go.Ground.phase }, { on := 7, ground := Go.Ground.phase }, { on := 8, ground := Go.Ground.phase }, { on := 9, ground := Go.Ground.phase }], guard := none }) (v := ?vg1037011) rfl (by kernel_rfl) (fun _ _ _ h => h) (Or.inl (by kernel_rfl)) (Or.inl ⟨by rfl, ?yg1037011⟩) ?_
            case yg1037011 => (intro wS _; go_simp <;> with_reducible rfl)
            try simp only [Act.put, List.setIfInBounds_toArray, List.set_cons_zero, List.set_cons_succ]
            refine wpG_done (by kernel_rfl) ?_
            go_wp2_with fail
            go_meet
            have hsame : ∀ b, b < w_25.heap.size → (w_25.alloc (.cells #[.slice ea0_651 r0.length ecap0_651] 28)).heap[b]? = w_25.heap[b]? := fun b hb => Below.block ((Below.refl _ _).alloc (Nat.le_refl _) _) b hb
            have hrdf : kSchema.rd (w_25.alloc (.cells #[.slice ea0_651 r0.length ecap0_651] 28)).heap.size (w_25.alloc (.cells #[.slice ea0_651 r0.length ecap0_651] 28)) [.slice ea0_651 r0.length ecap0_651] r0 := kSchema_ok.ord (kSchema_ok.oframe OW_703.out (fun b hm => (Below.block ((Below.refl w_25.heap.size w_25).alloc (Nat.le_refl _) _ : Below w_25.heap.size w_25 (w_25.alloc (.cells #[.slice ea0_651 r0.length ecap0_651] 28))) b (by have := HH_655.out b hm; first | omega | (simp; done) | (simp; omega))).trans (Below.block ((Below.refl w_25.heap.size w_25).alloc (Nat.le_refl _) _ : Below w_25.heap.size w_25 (w_25.alloc (.cells #[Value.slice none 0 0] 28))) b (by have := HH_655.out b hm; first | omega | (simp; done) | (simp; omega))).symm)) (fun b hm => by have := HH_655.out b hm; first | omega | (simp; done) | (simp; omega))
            have hbf : Below w_22.heap.size w_22 (w_25.alloc (.cells #[.slice ea0_651 r0.length ecap0_651] 28)) := rstep HBASE_680.out ((Below.refl _ _).alloc (Nat.le_refl _) _)
            exact ⟨_, _, _, rfl, rfl, Lib.hid ⟨by go_simp, hrdf, hbf, by first | omega | (simp; done) | (simp; omega), by first | omega | (simp; done) | (simp; omega)⟩⟩
          · skip
            go_simp
            have hb_708 : Below w_24.heap.size w_24 (w_24.alloc (.cells #[Value.slice none 0 0] 28)) := (Below.refl _ _).alloc (Nat.le_refl _) _
            have hz_709 : w_24.heap.size ≤ w_24.heap.size + 1 := by have := (hb_708).size; first | omega | (simp at this; omega)
            have HB_710 := Lib.hid (box2_step HB_631.out hb_708)
            have hz_711 : w.heap.size + 2 ≤ w_24.heap.size + 1 := Nat.le_trans hz_632 hz_709
            have c_712 : (w_24.alloc (.cells #[Value.slice none 0 0] 28)).cell? ⟨w.heap.size, 0, none⟩ = some (.slice ea0_0 a0.length ecap0_0) := below_later (hb_708) c_633; clear c_633
            have c_713 : (w_24.alloc (.cells #[Value.slice none 0 0] 28)).cell? ⟨w.heap.size + 1, 0, none⟩ = some (.slice ea1_0 a1.length ecap1_0) := below_later (hb_708) c_634; clear c_634
            have c_714 : (w_24.alloc (.cells #[Value.slice none 0 0] 28)).cell? ⟨B8, 0, none⟩ = some (.slice ec0_8 r0.length cc0_8) := below_later (hb_708) c_635; clear c_635
            have c_715 : (w_24.alloc (.cells #[Value.slice none 0 0] 28)).cell? ⟨w_10.heap.size, 0, none⟩ = some (.slice ea0_227 a0.length ecap0_227) := below_later (hb_708) c_636; clear c_636
            have c_716 : (w_24.alloc (.cells #[Value.slice none 0 0] 28)).cell? ⟨w_11.heap.size, 0, none⟩ = some (.slice ea0_255 a1.length ecap0_255) := below_later (hb_708) c_637; clear c_637
            have c_717 : (w_24.alloc (.cells #[Value.slice none 0 0] 28)).cell? ⟨w_12.heap.size, 0, none⟩ = some (.slice ea0_289 r0.length ecap0_289) := below_later (hb_708) c_638; clear c_638
            have RD_718 := Lib.hid (kSchema_ok.rbelow RD_639.out (Below.mono (hb_708) (by first | omega | (simp; done) | (simp; omega)))); clear RD_639
            have hz_719 : wc8.heap.size ≤ w_24.heap.size + 1 := Nat.le_trans hz_640 hz_709
            have RD_720 := Lib.hid (kSchema_ok.rbelow RD_641.out (Below.mono (hb_708) (by first | omega | (simp; done) | (simp; omega)))); clear RD_641
            have hz_721 : w_23.heap.size ≤ w_24.heap.size + 1 := Nat.le_trans hz_642 hz_709
            have RD_722 := Lib.hid (kSchema_ok.rbelow RD_628.out (Below.mono (hb_708) (by first | omega | (simp; done) | (simp; omega)))); clear RD_628
            have hz_723 : w_24.heap.size ≤ w_24.heap.size + 1 := Nat.le_trans hz_649 hz_709
            have OW_724 := Lib.hid (kSchema_ok.oframe OW_643.out (w' := (w_24.alloc (.cells #[Value.slice none 0 0] 28))) fun b hm => (hb_708).block b (kSchema_ok.olt OW_643.out b hm)); clear OW_643
            have hz_725 : w_10.heap.size ≤ w_24.heap.size + 1 := Nat.le_trans hz_644 hz_709
            have OW_726 := Lib.hid (kSchema_ok.oframe OW_645.out (w' := (w_24.alloc (.cells #[Value.slice none 0 0] 28))) fun b hm => (hb_708).block b (kSchema_ok.olt OW_645.out b hm)); clear OW_645
            have hz_727 : w_11.heap.size ≤ w_24.heap.size + 1 := Nat.le_trans hz_646 hz_709
            have OW_728 := Lib.hid (kSchema_ok.oframe OW_647.out (w' := (w_24.alloc (.cells #[Value.slice none 0 0] 28))) fun b hm => (hb_708).block b (kSchema_ok.olt OW_647.out b hm)); clear OW_647
            have hz_729 : w_12.heap.size ≤ w_24.heap.size + 1 := Nat.le_trans hz_648 hz_709
            have HBASE_730 := Lib.hid (rstep HBASE_650.out hb_708); clear hb_708
            have c_731 : (w_24.alloc (.cells #[Value.slice none 0 0] 28)).cell? ⟨w_24.heap.size, 0, none⟩ = some (Value.slice none 0 0) := by go_simp
            have f_732 : (w_24.alloc (.cells #[Value.slice none 0 0] 28)).frozen? ⟨w_24.heap.size, 0, none⟩ = false := by go_simp
            refine hK.out _ _ (Or.inl (by kernel_rfl)) (fun _ => ?_)
            clear hK K
            try simp only [Act.put, List.setIfInBounds_toArray, List.set_cons_zero, List.set_cons_succ]
            refine wpG_one (i := 4) (o := { dst := some 99, op := Go.Op.call { callee := Go.Callee.value (Go.Operand.func 9), args := #[Go.Operand.tmp 96, Go.Operand.tmp 98], argTypes := #[28, 28] }, type := 29, pos := "exact.go:5342", after := #[{ on := 1, ground := Go.Ground.data }, { on := 3, ground := Go.Ground.data }, { on := 3, ground := Go.Ground.chain }], guard := none }) rfl (by kernel_rfl) (fun K hK => ?_)
            go_simp
            refine (HI.out _ [.slice ea0_597 a0.length ecap0_597] [.slice ea0_623 a1.length ecap0_623] (kSchema_ok.rmono RD_720.out (by first | omega | (simp; done) | (simp; omega))) (kSchema_ok.rmono RD_722.out (by first | omega | (simp; done) | (simp; omega)))).mono ?_
            rintro e w_26 ⟨cs_733, fp_733, he, ho, hnd, hge, hb⟩
            have hrd := kSchema_ok.ord ho (B := w_26.heap.size) (kSchema_ok.olt ho)
            obtain ⟨ea0_733, ecap0_733, rfl⟩ : ∃ ea0_733 ecap0_733, cs_733 = [.slice ea0_733 r0.length ecap0_733] := by
              obtain ⟨ea0_733, ecap0_733, h, _⟩ := Schema_rd hrd
              exact ⟨ea0_733, ecap0_733, h⟩
            change e = .returned (.tuple #[(.agg #[.slice ea0_733 r0.length ecap0_733]), (.bool r1)]) at he
            subst he
            have RD_734 := Lib.hid hrd; clear hrd
            have OW_735 := Lib.hid ho; have HN_738 := Lib.hid hnd
            have HL_736 : Hid (∀ b ∈ fp_733, w_24.heap.size + 1 ≤ b) := Lib.hid fun b hm => by have := hge b hm; first | omega | (simp at this; omega)
            have HH_737 : Hid (∀ b ∈ fp_733, b < w_26.heap.size) := Lib.hid (kSchema_ok.olt ho)
            clear ho hnd hge
            have hb_739 := hb; clear hb
            have hz_740 : w_24.heap.size + 1 ≤ w_26.heap.size := by have := (hb_739).size; first | omega | (simp at this; omega)
            have HB_741 := Lib.hid (box2_step HB_710.out hb_739)
            have hz_742 : w.heap.size + 2 ≤ w_26.heap.size := Nat.le_trans hz_711 hz_740
            have c_743 : w_26.cell? ⟨w.heap.size, 0, none⟩ = some (.slice ea0_0 a0.length ecap0_0) := below_later (hb_739) c_712; clear c_712
            have c_744 : w_26.cell? ⟨w.heap.size + 1, 0, none⟩ = some (.slice ea1_0 a1.length ecap1_0) := below_later (hb_739) c_713; clear c_713
            have c_745 : w_26.cell? ⟨B8, 0, none⟩ = some (.slice ec0_8 r0.length cc0_8) := below_later (hb_739) c_714; clear c_714
            have c_746 : w_26.cell? ⟨w_10.heap.size, 0, none⟩ = some (.slice ea0_227 a0.length ecap0_227) := below_later (hb_739) c_715; clear c_715
            have c_747 : w_26.cell? ⟨w_11.heap.size, 0, none⟩ = some (.slice ea0_255 a1.length ecap0_255) := below_later (hb_739) c_716; clear c_716
            have c_748 : w_26.cell? ⟨w_12.heap.size, 0, none⟩ = some (.slice ea0_289 r0.length ecap0_289) := below_later (hb_739) c_717; clear c_717
            have c_749 : w_26.cell? ⟨w_24.heap.size, 0, none⟩ = some (Value.slice none 0 0) := below_later (hb_739) c_731; clear c_731
            have f_750 : w_26.frozen? ⟨w_24.heap.size, 0, none⟩ = false := (Below.frozen (hb_739) (p := ⟨w_24.heap.size, 0, none⟩) (by show w_24.heap.size < _; first | omega | (simp; done) | (simp; omega))).trans f_732; clear f_732
            have RD_751 := Lib.hid (kSchema_ok.rbelow RD_718.out (Below.mono (hb_739) (by first | omega | (simp; done) | (simp; omega)))); clear RD_718
            have hz_752 : wc8.heap.size ≤ w_26.heap.size := Nat.le_trans hz_719 hz_740
            have RD_753 := Lib.hid (kSchema_ok.rbelow RD_720.out (Below.mono (hb_739) (by first | omega | (simp; done) | (simp; omega)))); clear RD_720
            have hz_754 : w_23.heap.size ≤ w_26.heap.size := Nat.le_trans hz_721 hz_740
            have RD_755 := Lib.hid (kSchema_ok.rbelow RD_722.out (Below.mono (hb_739) (by first | omega | (simp; done) | (simp; omega)))); clear RD_722
            have hz_756 : w_24.heap.size ≤ w_26.heap.size := Nat.le_trans hz_723 hz_740
            have OW_757 := Lib.hid (kSchema_ok.oframe OW_724.out (w' := w_26) fun b hm => (hb_739).block b (kSchema_ok.olt OW_724.out b hm)); clear OW_724
            have hz_758 : w_10.heap.size ≤ w_26.heap.size := Nat.le_trans hz_725 hz_740
            have OW_759 := Lib.hid (kSchema_ok.oframe OW_726.out (w' := w_26) fun b hm => (hb_739).block b (kSchema_ok.olt OW_726.out b hm)); clear OW_726
            have hz_760 : w_11.heap.size ≤ w_26.heap.size := Nat.le_trans hz_727 hz_740
            have OW_761 := Lib.hid (kSchema_ok.oframe OW_728.out (w' := w_26) fun b hm => (hb_739).block b (kSchema_ok.olt OW_728.out b hm)); clear OW_728
            have hz_762 : w_12.heap.size ≤ w_26.heap.size := Nat.le_trans hz_729 hz_740
            have HBLAST := Lib.hid hb_739
            clear hb_739
            have hz_763 : w_26.heap.size ≤ w_26.heap.size := Nat.le_refl _
            have HBASE_764 := Lib.hid (rstep HBASE_730.out HBLAST.out); clear HBLAST
            refine hK.out _ _ (Or.inl (by kernel_rfl)) (fun _ => ?_)
            clear hK K
            try simp only [Act.put, List.setIfInBounds_toArray, List.set_cons_zero, List.set_cons_succ]
            refine wpG_pure (i := 5) (oi := { dst := some 94, op := Go.Op.move (Go.Operand.tmp 99), type := 29, pos := "exact.go:5342", after := #[{ on := 4, ground := Go.Ground.data }], guard := none }) (v := ?vg1037014) rfl (by kernel_rfl) (fun _ _ _ h => h) (Or.inl (by kernel_rfl)) (Or.inl ⟨by rfl, ?yg1037014⟩) ?_
            case yg1037014 => (intro wS _; go_simp <;> with_reducible rfl)
            try simp only [Act.put, List.setIfInBounds_toArray, List.set_cons_zero, List.set_cons_succ]
            refine wpG_pure (i := 6) (oi := { dst := some 100, op := Go.Op.extract (Go.Operand.tmp 94) 0, type := 28, pos := "exact.go:5342", after := #[{ on := 5, ground := Go.Ground.data }], guard := none }) (v := ?vg1037015) rfl (by kernel_rfl) (fun _ _ _ h => h) (Or.inl (by kernel_rfl)) (Or.inl ⟨by rfl, ?yg1037015⟩) ?_
            case yg1037015 => (intro wS _; go_simp <;> with_reducible rfl)
            try simp only [Act.put, List.setIfInBounds_toArray, List.set_cons_zero, List.set_cons_succ]
            refine wpG_pure (i := 7) (oi := { dst := some 101, op := Go.Op.extract (Go.Operand.tmp 94) 1, type := 4, pos := "exact.go:5342", after := #[{ on := 5, ground := Go.Ground.data }, { on := 9, ground := Go.Ground.gcOnly Go.Departure.lateStores }], guard := none }) (v := ?vg1037016) rfl (by kernel_rfl) (fun _ _ _ h => h) (Or.inl (by kernel_rfl)) (Or.inl ⟨by rfl, ?yg1037016⟩) ?_
            case yg1037016 => (intro wS _; go_simp <;> with_reducible rfl)
            try simp only [Act.put, List.setIfInBounds_toArray, List.set_cons_zero, List.set_cons_succ]
            refine wpG_one (i := 9) (o := { dst := none, op := Go.Op.store 28 (Go.Operand.tmp 15) (Go.Operand.tmp 100), type := 0, pos := "exact.go:5342", after := #[{ on := 8, ground := Go.Ground.data }, { on := 6, ground := Go.Ground.data }, { on := 4, ground := Go.Ground.chain }, { on := 0, ground := Go.Ground.phase }, { on := 1, ground := Go.Ground.phase }, { on := 2, ground := Go.Ground.phase }, { on := 3, ground := Go.Ground.phase }, { on := 4, ground := Go.Ground.phase }, { on := 5, ground := Go.Ground.phase }, { on := 6, ground := Go.Ground.phase }, { on := 7, ground := Go.Ground.textOnly Go.Departure.lateStores }, { on := 8, ground := Go.Ground.phase }], guard := none }) rfl (by kernel_rfl) (fun K hK => ?_)
            go_simp
            refine hK.out _ _ (Or.inl (by kernel_rfl)) (fun _ => ?_)
            clear hK K
            try simp only [Act.put, List.setIfInBounds_toArray, List.set_cons_zero, List.set_cons_succ]
            refine wpG_pure (i := 10) (oi := { dst := some 16, op := Go.Op.assign (Go.Operand.tmp 101), type := 4, pos := "exact.go:5342", after := #[{ on := 7, ground := Go.Ground.data }, { on := 9, ground := Go.Ground.chain }, { on := 0, ground := Go.Ground.phase }, { on := 1, ground := Go.Ground.phase }, { on := 2, ground := Go.Ground.phase }, { on := 3, ground := Go.Ground.phase }, { on := 4, ground := Go.Ground.phase }, { on := 5, ground := Go.Ground.phase }, { on := 6, ground := Go.Ground.phase }, { on := 7, ground := Go.Ground.phase }, { on := 8, ground := Go.Ground.phase }, { on := 9, ground := Go.Ground.phase }], guard := none }) (v := ?vg1037018) rfl (by kernel_rfl) (fun _ _ _ h => h) (Or.inl (by kernel_rfl)) (Or.inl ⟨by rfl, ?yg1037018⟩) ?_
            case yg1037018 => (intro wS _; go_simp <;> with_reducible rfl)
            try simp only [Act.put, List.setIfInBounds_toArray, List.set_cons_zero, List.set_cons_succ]
            refine wpG_done (by kernel_rfl) ?_
            go_wp2_with fail
            go_meet
            have hrdf : kSchema.rd (w_26.setCell ⟨w_24.heap.size, 0, none⟩ (.slice ea0_733 r0.length ecap0_733)).heap.size (w_26.setCell ⟨w_24.heap.size, 0, none⟩ (.slice ea0_733 r0.length ecap0_733)) [.slice ea0_733 r0.length ecap0_733] r0 := kSchema_ok.ord (kSchema_ok.oframe OW_735.out (fun b hm => by rw [Below.heap_setCell _ _ _ _ (by show b ≠ w_24.heap.size; have := HL_736.out b hm; omega)])) (fun b hm => by have := HH_737.out b hm; first | omega | (simp; done) | (simp; omega))
            have hbf : Below w_22.heap.size w_22 (w_26.setCell ⟨w_24.heap.size, 0, none⟩ (.slice ea0_733 r0.length ecap0_733)) := (HBASE_764.out.setCell (p := ⟨w_24.heap.size, 0, none⟩) (by show w_22.heap.size ≤ w_24.heap.size; omega) _)
            exact ⟨_, _, _, rfl, rfl, Lib.hid ⟨by go_simp, hrdf, hbf, by first | omega | (simp; done) | (simp; omega), by first | omega | (simp; done) | (simp; omega)⟩⟩
        · skip
          go_simp
          have hb_765 : Below w_23.heap.size w_23 (w_23.alloc (.cells #[Value.slice none 0 0] 28)) := (Below.refl _ _).alloc (Nat.le_refl _) _
          have hz_766 : w_23.heap.size ≤ w_23.heap.size + 1 := by have := (hb_765).size; first | omega | (simp at this; omega)
          have HB_767 := Lib.hid (box2_step HB_605.out hb_765)
          have hz_768 : w.heap.size + 2 ≤ w_23.heap.size + 1 := Nat.le_trans hz_606 hz_766
          have c_769 : (w_23.alloc (.cells #[Value.slice none 0 0] 28)).cell? ⟨w.heap.size, 0, none⟩ = some (.slice ea0_0 a0.length ecap0_0) := below_later (hb_765) c_607; clear c_607
          have c_770 : (w_23.alloc (.cells #[Value.slice none 0 0] 28)).cell? ⟨w.heap.size + 1, 0, none⟩ = some (.slice ea1_0 a1.length ecap1_0) := below_later (hb_765) c_608; clear c_608
          have c_771 : (w_23.alloc (.cells #[Value.slice none 0 0] 28)).cell? ⟨B8, 0, none⟩ = some (.slice ec0_8 r0.length cc0_8) := below_later (hb_765) c_609; clear c_609
          have c_772 : (w_23.alloc (.cells #[Value.slice none 0 0] 28)).cell? ⟨w_10.heap.size, 0, none⟩ = some (.slice ea0_227 a0.length ecap0_227) := below_later (hb_765) c_610; clear c_610
          have c_773 : (w_23.alloc (.cells #[Value.slice none 0 0] 28)).cell? ⟨w_11.heap.size, 0, none⟩ = some (.slice ea0_255 a1.length ecap0_255) := below_later (hb_765) c_611; clear c_611
          have c_774 : (w_23.alloc (.cells #[Value.slice none 0 0] 28)).cell? ⟨w_12.heap.size, 0, none⟩ = some (.slice ea0_289 r0.length ecap0_289) := below_later (hb_765) c_612; clear c_612
          have RD_775 := Lib.hid (kSchema_ok.rbelow RD_613.out (Below.mono (hb_765) (by first | omega | (simp; done) | (simp; omega)))); clear RD_613
          have hz_776 : wc8.heap.size ≤ w_23.heap.size + 1 := Nat.le_trans hz_614 hz_766
          have RD_777 := Lib.hid (kSchema_ok.rbelow RD_602.out (Below.mono (hb_765) (by first | omega | (simp; done) | (simp; omega)))); clear RD_602
          have hz_778 : w_23.heap.size ≤ w_23.heap.size + 1 := Nat.le_trans hz_621 hz_766
          have OW_779 := Lib.hid (kSchema_ok.oframe OW_615.out (w' := (w_23.alloc (.cells #[Value.slice none 0 0] 28))) fun b hm => (hb_765).block b (kSchema_ok.olt OW_615.out b hm)); clear OW_615
          have hz_780 : w_10.heap.size ≤ w_23.heap.size + 1 := Nat.le_trans hz_616 hz_766
          have OW_781 := Lib.hid (kSchema_ok.oframe OW_617.out (w' := (w_23.alloc (.cells #[Value.slice none 0 0] 28))) fun b hm => (hb_765).block b (kSchema_ok.olt OW_617.out b hm)); clear OW_617
          have hz_782 : w_11.heap.size ≤ w_23.heap.size + 1 := Nat.le_trans hz_618 hz_766
          have OW_783 := Lib.hid (kSchema_ok.oframe OW_619.out (w' := (w_23.alloc (.cells #[Value.slice none 0 0] 28))) fun b hm => (hb_765).block b (kSchema_ok.olt OW_619.out b hm)); clear OW_619
          have hz_784 : w_12.heap.size ≤ w_23.heap.size + 1 := Nat.le_trans hz_620 hz_766
          have HBASE_785 := Lib.hid (rstep HBASE_622.out hb_765); clear hb_765
          have c_786 : (w_23.alloc (.cells #[Value.slice none 0 0] 28)).cell? ⟨w_23.heap.size, 0, none⟩ = some (Value.slice none 0 0) := by go_simp
          have f_787 : (w_23.alloc (.cells #[Value.slice none 0 0] 28)).frozen? ⟨w_23.heap.size, 0, none⟩ = false := by go_simp
          refine hK.out _ _ (Or.inr ?khHeld1037019) (fun hHeld1037019S => ?_)
          case khHeld1037019 => exact ⟨c_769, c_770⟩
          have hHeld1037019 := hHeld1037019S.held (by kernel_rfl)
          clear hK K
          try simp only [Act.put, List.setIfInBounds_toArray, List.set_cons_zero, List.set_cons_succ]
          refine wpG_one (i := 3) (o := { dst := some 98, op := Go.Op.call { callee := Go.Callee.value (Go.Operand.func 8), args := #[Go.Operand.tmp 97], argTypes := #[24] }, type := 28, pos := "exact.go:5342", after := #[{ on := 2, ground := Go.Ground.data }, { on := 1, ground := Go.Ground.chain }], guard := none }) rfl (by kernel_rfl) (fun K hK => ?_)
          go_simp
          refine (HTO1.out _ (box2_below HB_767.out)).mono ?_
          rintro e w_27 ⟨cs_788, fp_788, he, ho, hnd, hge, hb⟩
          have hrd := kSchema_ok.ord ho (B := w_27.heap.size) (kSchema_ok.olt ho)
          obtain ⟨ea0_788, ecap0_788, rfl, _⟩ := Schema_rd hrd
          change e = .returned (.agg #[.slice ea0_788 a1.length ecap0_788]) at he
          subst he
          have hrd2 := kSchema_ok.ord ho (B := w_27.heap.size) (kSchema_ok.olt ho)
          have OW_789 := Lib.hid ho; have HN_792 := Lib.hid hnd
          have HL_790 : Hid (∀ b ∈ fp_788, w_23.heap.size + 1 ≤ b) := Lib.hid fun b hm => by have := hge b hm; first | omega | (simp at this; omega)
          have HH_791 : Hid (∀ b ∈ fp_788, b < w_27.heap.size) := Lib.hid (kSchema_ok.olt ho)
          have RD_793 := Lib.hid hrd2; clear ho hnd hge hrd2 hrd
          have hb_794 := hb; clear hb
          have hz_795 : w_23.heap.size + 1 ≤ w_27.heap.size := by have := (hb_794).size; first | omega | (simp at this; omega)
          have HB_796 := Lib.hid (box2_step HB_767.out hb_794)
          have hz_797 : w.heap.size + 2 ≤ w_27.heap.size := Nat.le_trans hz_768 hz_795
          have c_798 : w_27.cell? ⟨w.heap.size, 0, none⟩ = some (.slice ea0_0 a0.length ecap0_0) := below_later (hb_794) c_769; clear c_769
          have c_799 : w_27.cell? ⟨w.heap.size + 1, 0, none⟩ = some (.slice ea1_0 a1.length ecap1_0) := below_later (hb_794) c_770; clear c_770
          have c_800 : w_27.cell? ⟨B8, 0, none⟩ = some (.slice ec0_8 r0.length cc0_8) := below_later (hb_794) c_771; clear c_771
          have c_801 : w_27.cell? ⟨w_10.heap.size, 0, none⟩ = some (.slice ea0_227 a0.length ecap0_227) := below_later (hb_794) c_772; clear c_772
          have c_802 : w_27.cell? ⟨w_11.heap.size, 0, none⟩ = some (.slice ea0_255 a1.length ecap0_255) := below_later (hb_794) c_773; clear c_773
          have c_803 : w_27.cell? ⟨w_12.heap.size, 0, none⟩ = some (.slice ea0_289 r0.length ecap0_289) := below_later (hb_794) c_774; clear c_774
          have c_804 : w_27.cell? ⟨w_23.heap.size, 0, none⟩ = some (Value.slice none 0 0) := below_later (hb_794) c_786; clear c_786
          have f_805 : w_27.frozen? ⟨w_23.heap.size, 0, none⟩ = false := (Below.frozen (hb_794) (p := ⟨w_23.heap.size, 0, none⟩) (by show w_23.heap.size < _; first | omega | (simp; done) | (simp; omega))).trans f_787; clear f_787
          have RD_806 := Lib.hid (kSchema_ok.rbelow RD_775.out (Below.mono (hb_794) (by first | omega | (simp; done) | (simp; omega)))); clear RD_775
          have hz_807 : wc8.heap.size ≤ w_27.heap.size := Nat.le_trans hz_776 hz_795
          have RD_808 := Lib.hid (kSchema_ok.rbelow RD_777.out (Below.mono (hb_794) (by first | omega | (simp; done) | (simp; omega)))); clear RD_777
          have hz_809 : w_23.heap.size ≤ w_27.heap.size := Nat.le_trans hz_778 hz_795
          have OW_810 := Lib.hid (kSchema_ok.oframe OW_779.out (w' := w_27) fun b hm => (hb_794).block b (kSchema_ok.olt OW_779.out b hm)); clear OW_779
          have hz_811 : w_10.heap.size ≤ w_27.heap.size := Nat.le_trans hz_780 hz_795
          have OW_812 := Lib.hid (kSchema_ok.oframe OW_781.out (w' := w_27) fun b hm => (hb_794).block b (kSchema_ok.olt OW_781.out b hm)); clear OW_781
          have hz_813 : w_11.heap.size ≤ w_27.heap.size := Nat.le_trans hz_782 hz_795
          have OW_814 := Lib.hid (kSchema_ok.oframe OW_783.out (w' := w_27) fun b hm => (hb_794).block b (kSchema_ok.olt OW_783.out b hm)); clear OW_783
          have hz_815 : w_12.heap.size ≤ w_27.heap.size := Nat.le_trans hz_784 hz_795
          have HBLAST := Lib.hid hb_794
          have HQ := Lib.hid hb_794; clear hb_794 HQ
          have hz_816 : w_27.heap.size ≤ w_27.heap.size := Nat.le_refl _
          have HBASE_817 := Lib.hid (rstep HBASE_785.out HBLAST.out); clear HBLAST
          refine hK.out _ _ (Or.inl (by kernel_rfl)) (fun _ => ?_)
          clear hK K
          try simp only [Act.put, List.setIfInBounds_toArray, List.set_cons_zero, List.set_cons_succ]
          refine wpG_one (i := 4) (o := { dst := some 99, op := Go.Op.call { callee := Go.Callee.value (Go.Operand.func 9), args := #[Go.Operand.tmp 96, Go.Operand.tmp 98], argTypes := #[28, 28] }, type := 29, pos := "exact.go:5342", after := #[{ on := 1, ground := Go.Ground.data }, { on := 3, ground := Go.Ground.data }, { on := 3, ground := Go.Ground.chain }], guard := none }) rfl (by kernel_rfl) (fun K hK => ?_)
          go_simp
          refine (HI.out _ [.slice ea0_597 a0.length ecap0_597] [.slice ea0_788 a1.length ecap0_788] (kSchema_ok.rmono RD_808.out (by first | omega | (simp; done) | (simp; omega))) (kSchema_ok.rmono RD_793.out (by first | omega | (simp; done) | (simp; omega)))).mono ?_
          rintro e w_28 ⟨cs_818, fp_818, he, ho, hnd, hge, hb⟩
          have hrd := kSchema_ok.ord ho (B := w_28.heap.size) (kSchema_ok.olt ho)
          obtain ⟨ea0_818, ecap0_818, rfl⟩ : ∃ ea0_818 ecap0_818, cs_818 = [.slice ea0_818 r0.length ecap0_818] := by
            obtain ⟨ea0_818, ecap0_818, h, _⟩ := Schema_rd hrd
            exact ⟨ea0_818, ecap0_818, h⟩
          change e = .returned (.tuple #[(.agg #[.slice ea0_818 r0.length ecap0_818]), (.bool r1)]) at he
          subst he
          have RD_819 := Lib.hid hrd; clear hrd
          have OW_820 := Lib.hid ho; have HN_823 := Lib.hid hnd
          have HL_821 : Hid (∀ b ∈ fp_818, w_27.heap.size ≤ b) := Lib.hid fun b hm => by have := hge b hm; first | omega | (simp at this; omega)
          have HH_822 : Hid (∀ b ∈ fp_818, b < w_28.heap.size) := Lib.hid (kSchema_ok.olt ho)
          clear ho hnd hge
          have hb_824 := hb; clear hb
          have hz_825 : w_27.heap.size ≤ w_28.heap.size := by have := (hb_824).size; first | omega | (simp at this; omega)
          have HB_826 := Lib.hid (box2_step HB_796.out hb_824)
          have hz_827 : w.heap.size + 2 ≤ w_28.heap.size := Nat.le_trans hz_797 hz_825
          have c_828 : w_28.cell? ⟨w.heap.size, 0, none⟩ = some (.slice ea0_0 a0.length ecap0_0) := below_later (hb_824) c_798; clear c_798
          have c_829 : w_28.cell? ⟨w.heap.size + 1, 0, none⟩ = some (.slice ea1_0 a1.length ecap1_0) := below_later (hb_824) c_799; clear c_799
          have c_830 : w_28.cell? ⟨B8, 0, none⟩ = some (.slice ec0_8 r0.length cc0_8) := below_later (hb_824) c_800; clear c_800
          have c_831 : w_28.cell? ⟨w_10.heap.size, 0, none⟩ = some (.slice ea0_227 a0.length ecap0_227) := below_later (hb_824) c_801; clear c_801
          have c_832 : w_28.cell? ⟨w_11.heap.size, 0, none⟩ = some (.slice ea0_255 a1.length ecap0_255) := below_later (hb_824) c_802; clear c_802
          have c_833 : w_28.cell? ⟨w_12.heap.size, 0, none⟩ = some (.slice ea0_289 r0.length ecap0_289) := below_later (hb_824) c_803; clear c_803
          have c_834 : w_28.cell? ⟨w_23.heap.size, 0, none⟩ = some (Value.slice none 0 0) := below_later (hb_824) c_804; clear c_804
          have f_835 : w_28.frozen? ⟨w_23.heap.size, 0, none⟩ = false := (Below.frozen (hb_824) (p := ⟨w_23.heap.size, 0, none⟩) (by show w_23.heap.size < _; first | omega | (simp; done) | (simp; omega))).trans f_805; clear f_805
          have RD_836 := Lib.hid (kSchema_ok.rbelow RD_806.out (Below.mono (hb_824) (by first | omega | (simp; done) | (simp; omega)))); clear RD_806
          have hz_837 : wc8.heap.size ≤ w_28.heap.size := Nat.le_trans hz_807 hz_825
          have RD_838 := Lib.hid (kSchema_ok.rbelow RD_808.out (Below.mono (hb_824) (by first | omega | (simp; done) | (simp; omega)))); clear RD_808
          have hz_839 : w_23.heap.size ≤ w_28.heap.size := Nat.le_trans hz_809 hz_825
          have RD_840 := Lib.hid (kSchema_ok.rbelow RD_793.out (Below.mono (hb_824) (by first | omega | (simp; done) | (simp; omega)))); clear RD_793
          have hz_841 : w_27.heap.size ≤ w_28.heap.size := Nat.le_trans hz_816 hz_825
          have OW_842 := Lib.hid (kSchema_ok.oframe OW_810.out (w' := w_28) fun b hm => (hb_824).block b (kSchema_ok.olt OW_810.out b hm)); clear OW_810
          have hz_843 : w_10.heap.size ≤ w_28.heap.size := Nat.le_trans hz_811 hz_825
          have OW_844 := Lib.hid (kSchema_ok.oframe OW_812.out (w' := w_28) fun b hm => (hb_824).block b (kSchema_ok.olt OW_812.out b hm)); clear OW_812
          have hz_845 : w_11.heap.size ≤ w_28.heap.size := Nat.le_trans hz_813 hz_825
          have OW_846 := Lib.hid (kSchema_ok.oframe OW_814.out (w' := w_28) fun b hm => (hb_824).block b (kSchema_ok.olt OW_814.out b hm)); clear OW_814
          have hz_847 : w_12.heap.size ≤ w_28.heap.size := Nat.le_trans hz_815 hz_825
          have HBLAST := Lib.hid hb_824
          clear hb_824
          have hz_848 : w_28.heap.size ≤ w_28.heap.size := Nat.le_refl _
          have HBASE_849 := Lib.hid (rstep HBASE_817.out HBLAST.out); clear HBLAST
          refine hK.out _ _ (Or.inl (by kernel_rfl)) (fun _ => ?_)
          clear hK K
          try simp only [Act.put, List.setIfInBounds_toArray, List.set_cons_zero, List.set_cons_succ]
          refine wpG_pure (i := 5) (oi := { dst := some 94, op := Go.Op.move (Go.Operand.tmp 99), type := 29, pos := "exact.go:5342", after := #[{ on := 4, ground := Go.Ground.data }], guard := none }) (v := ?vg1037022) rfl (by kernel_rfl) (fun _ _ _ h => h) (Or.inl (by kernel_rfl)) (Or.inl ⟨by rfl, ?yg1037022⟩) ?_
          case yg1037022 => (intro wS _; go_simp <;> with_reducible rfl)
          try simp only [Act.put, List.setIfInBounds_toArray, List.set_cons_zero, List.set_cons_succ]
          refine wpG_pure (i := 6) (oi := { dst := some 100, op := Go.Op.extract (Go.Operand.tmp 94) 0, type := 28, pos := "exact.go:5342", after := #[{ on := 5, ground := Go.Ground.data }], guard := none }) (v := ?vg1037023) rfl (by kernel_rfl) (fun _ _ _ h => h) (Or.inl (by kernel_rfl)) (Or.inl ⟨by rfl, ?yg1037023⟩) ?_
          case yg1037023 => (intro wS _; go_simp <;> with_reducible rfl)
          try simp only [Act.put, List.setIfInBounds_toArray, List.set_cons_zero, List.set_cons_succ]
          refine wpG_pure (i := 7) (oi := { dst := some 101, op := Go.Op.extract (Go.Operand.tmp 94) 1, type := 4, pos := "exact.go:5342", after := #[{ on := 5, ground := Go.Ground.data }, { on := 9, ground := Go.Ground.gcOnly Go.Departure.lateStores }], guard := none }) (v := ?vg1037024) rfl (by kernel_rfl) (fun _ _ _ h => h) (Or.inl (by kernel_rfl)) (Or.inl ⟨by rfl, ?yg1037024⟩) ?_
          case yg1037024 => (intro wS _; go_simp <;> with_reducible rfl)
          try simp only [Act.put, List.setIfInBounds_toArray, List.set_cons_zero, List.set_cons_succ]
          refine wpG_one (i := 9) (o := { dst := none, op := Go.Op.store 28 (Go.Operand.tmp 15) (Go.Operand.tmp 100), type := 0, pos := "exact.go:5342", after := #[{ on := 8, ground := Go.Ground.data }, { on := 6, ground := Go.Ground.data }, { on := 4, ground := Go.Ground.chain }, { on := 0, ground := Go.Ground.phase }, { on := 1, ground := Go.Ground.phase }, { on := 2, ground := Go.Ground.phase }, { on := 3, ground := Go.Ground.phase }, { on := 4, ground := Go.Ground.phase }, { on := 5, ground := Go.Ground.phase }, { on := 6, ground := Go.Ground.phase }, { on := 7, ground := Go.Ground.textOnly Go.Departure.lateStores }, { on := 8, ground := Go.Ground.phase }], guard := none }) rfl (by kernel_rfl) (fun K hK => ?_)
          go_simp
          refine hK.out _ _ (Or.inl (by kernel_rfl)) (fun _ => ?_)
          clear hK K
          try simp only [Act.put, List.setIfInBounds_toArray, List.set_cons_zero, List.set_cons_succ]
          refine wpG_pure (i := 10) (oi := { dst := some 16, op := Go.Op.assign (Go.Operand.tmp 101), type := 4, pos := "exact.go:5342", after := #[{ on := 7, ground := Go.Ground.data }, { on := 9, ground := Go.Ground.chain }, { on := 0, ground := Go.Ground.phase }, { on := 1, ground := Go.Ground.phase }, { on := 2, ground := Go.Ground.phase }, { on := 3, ground := Go.Ground.phase }, { on := 4, ground := Go.Ground.phase }, { on := 5, ground := Go.Ground.phase }, { on := 6, ground := Go.Ground.phase }, { on := 7, ground := Go.Ground.phase }, { on := 8, ground := Go.Ground.phase }, { on := 9, ground := Go.Ground.phase }], guard := none }) (v := ?vg1037026) rfl (by kernel_rfl) (fun _ _ _ h => h) (Or.inl (by kernel_rfl)) (Or.inl ⟨by rfl, ?yg1037026⟩) ?_
          case yg1037026 => (intro wS _; go_simp <;> with_reducible rfl)
          try simp only [Act.put, List.setIfInBounds_toArray, List.set_cons_zero, List.set_cons_succ]
          refine wpG_done (by kernel_rfl) ?_
          go_wp2_with fail
          go_meet
          have hrdf : kSchema.rd (w_28.setCell ⟨w_23.heap.size, 0, none⟩ (.slice ea0_818 r0.length ecap0_818)).heap.size (w_28.setCell ⟨w_23.heap.size, 0, none⟩ (.slice ea0_818 r0.length ecap0_818)) [.slice ea0_818 r0.length ecap0_818] r0 := kSchema_ok.ord (kSchema_ok.oframe OW_820.out (fun b hm => by rw [Below.heap_setCell _ _ _ _ (by show b ≠ w_23.heap.size; have := HL_821.out b hm; omega)])) (fun b hm => by have := HH_822.out b hm; first | omega | (simp; done) | (simp; omega))
          have hbf : Below w_22.heap.size w_22 (w_28.setCell ⟨w_23.heap.size, 0, none⟩ (.slice ea0_818 r0.length ecap0_818)) := (HBASE_849.out.setCell (p := ⟨w_23.heap.size, 0, none⟩) (by show w_22.heap.size ≤ w_23.heap.size; omega) _)
          exact ⟨_, _, _, rfl, rfl, Lib.hid ⟨by go_simp, hrdf, hbf, by first | omega | (simp; done) | (simp; omega), by first | omega | (simp; done) | (simp; omega)⟩⟩
      · skip
        go_simp
        have hb_850 : Below w_22.drew.heap.size w_22.drew (w_22.alloc (.cells #[Value.slice none 0 0] 28)).drew := below_alloc_drew _ _
        have hz_851 : w_22.heap.size ≤ w_22.heap.size + 1 := by have := (hb_850).size; first | omega | (simp at this; omega)
        have HB_852 := Lib.hid (box2_step HB_580.out hb_850)
        have hz_853 : w.heap.size + 2 ≤ w_22.heap.size + 1 := Nat.le_trans hz_581 hz_851
        have c_854 : (w_22.alloc (.cells #[Value.slice none 0 0] 28)).drew.cell? ⟨w.heap.size, 0, none⟩ = some (.slice ea0_0 a0.length ecap0_0) := below_later (hb_850) c_582; clear c_582
        have c_855 : (w_22.alloc (.cells #[Value.slice none 0 0] 28)).drew.cell? ⟨w.heap.size + 1, 0, none⟩ = some (.slice ea1_0 a1.length ecap1_0) := below_later (hb_850) c_583; clear c_583
        have c_856 : (w_22.alloc (.cells #[Value.slice none 0 0] 28)).drew.cell? ⟨B8, 0, none⟩ = some (.slice ec0_8 r0.length cc0_8) := below_later (hb_850) c_584; clear c_584
        have c_857 : (w_22.alloc (.cells #[Value.slice none 0 0] 28)).drew.cell? ⟨w_10.heap.size, 0, none⟩ = some (.slice ea0_227 a0.length ecap0_227) := below_later (hb_850) c_585; clear c_585
        have c_858 : (w_22.alloc (.cells #[Value.slice none 0 0] 28)).drew.cell? ⟨w_11.heap.size, 0, none⟩ = some (.slice ea0_255 a1.length ecap0_255) := below_later (hb_850) c_586; clear c_586
        have c_859 : (w_22.alloc (.cells #[Value.slice none 0 0] 28)).drew.cell? ⟨w_12.heap.size, 0, none⟩ = some (.slice ea0_289 r0.length ecap0_289) := below_later (hb_850) c_587; clear c_587
        have RD_860 := Lib.hid (kSchema_ok.rbelow RD_588.out (Below.mono (hb_850) (by first | omega | (simp; done) | (simp; omega)))); clear RD_588
        have hz_861 : wc8.heap.size ≤ w_22.heap.size + 1 := Nat.le_trans hz_589 hz_851
        have OW_862 := Lib.hid (kSchema_ok.oframe OW_590.out (w' := (w_22.alloc (.cells #[Value.slice none 0 0] 28)).drew) fun b hm => (hb_850).block b (kSchema_ok.olt OW_590.out b hm)); clear OW_590
        have hz_863 : w_10.heap.size ≤ w_22.heap.size + 1 := Nat.le_trans hz_591 hz_851
        have OW_864 := Lib.hid (kSchema_ok.oframe OW_592.out (w' := (w_22.alloc (.cells #[Value.slice none 0 0] 28)).drew) fun b hm => (hb_850).block b (kSchema_ok.olt OW_592.out b hm)); clear OW_592
        have hz_865 : w_11.heap.size ≤ w_22.heap.size + 1 := Nat.le_trans hz_593 hz_851
        have OW_866 := Lib.hid (kSchema_ok.oframe OW_594.out (w' := (w_22.alloc (.cells #[Value.slice none 0 0] 28)).drew) fun b hm => (hb_850).block b (kSchema_ok.olt OW_594.out b hm)); clear OW_594
        have hz_867 : w_12.heap.size ≤ w_22.heap.size + 1 := Nat.le_trans hz_595 hz_851
        have HBASE_868 := Lib.hid (rstep HBASE_596.out hb_850); clear hb_850
        have c_869 : (w_22.alloc (.cells #[Value.slice none 0 0] 28)).drew.cell? ⟨w_22.heap.size, 0, none⟩ = some (Value.slice none 0 0) := by go_simp
        have f_870 : (w_22.alloc (.cells #[Value.slice none 0 0] 28)).drew.frozen? ⟨w_22.heap.size, 0, none⟩ = false := by go_simp
        refine hK.out _ _ (Or.inr ?khHeld1037027) (fun hHeld1037027S => ?_)
        case khHeld1037027 => exact ⟨c_854, c_855⟩
        have hHeld1037027 := hHeld1037027S.held (by kernel_rfl)
        clear hK K
        try simp only [Act.put, List.setIfInBounds_toArray, List.set_cons_zero, List.set_cons_succ]
        refine wpG_one (i := 1) (o := { dst := some 96, op := Go.Op.call { callee := Go.Callee.value (Go.Operand.func 8), args := #[Go.Operand.tmp 95], argTypes := #[24] }, type := 28, pos := "exact.go:5342", after := #[{ on := 0, ground := Go.Ground.data }], guard := none }) rfl (by kernel_rfl) (fun K hK => ?_)
        go_simp
        refine (HTO0.out _ (box2_below HB_852.out)).mono ?_
        rintro e w_29 ⟨cs_871, fp_871, he, ho, hnd, hge, hb⟩
        have hrd := kSchema_ok.ord ho (B := w_29.heap.size) (kSchema_ok.olt ho)
        obtain ⟨ea0_871, ecap0_871, rfl, _⟩ := Schema_rd hrd
        change e = .returned (.agg #[.slice ea0_871 a0.length ecap0_871]) at he
        subst he
        have hrd2 := kSchema_ok.ord ho (B := w_29.heap.size) (kSchema_ok.olt ho)
        have OW_872 := Lib.hid ho; have HN_875 := Lib.hid hnd
        have HL_873 : Hid (∀ b ∈ fp_871, w_22.heap.size + 1 ≤ b) := Lib.hid fun b hm => by have := hge b hm; first | omega | (simp at this; omega)
        have HH_874 : Hid (∀ b ∈ fp_871, b < w_29.heap.size) := Lib.hid (kSchema_ok.olt ho)
        have RD_876 := Lib.hid hrd2; clear ho hnd hge hrd2 hrd
        have hb_877 := hb; clear hb
        have hz_878 : w_22.heap.size + 1 ≤ w_29.heap.size := by have := (hb_877).size; first | omega | (simp at this; omega)
        have HB_879 := Lib.hid (box2_step HB_852.out hb_877)
        have hz_880 : w.heap.size + 2 ≤ w_29.heap.size := Nat.le_trans hz_853 hz_878
        have c_881 : w_29.cell? ⟨w.heap.size, 0, none⟩ = some (.slice ea0_0 a0.length ecap0_0) := below_later (hb_877) c_854; clear c_854
        have c_882 : w_29.cell? ⟨w.heap.size + 1, 0, none⟩ = some (.slice ea1_0 a1.length ecap1_0) := below_later (hb_877) c_855; clear c_855
        have c_883 : w_29.cell? ⟨B8, 0, none⟩ = some (.slice ec0_8 r0.length cc0_8) := below_later (hb_877) c_856; clear c_856
        have c_884 : w_29.cell? ⟨w_10.heap.size, 0, none⟩ = some (.slice ea0_227 a0.length ecap0_227) := below_later (hb_877) c_857; clear c_857
        have c_885 : w_29.cell? ⟨w_11.heap.size, 0, none⟩ = some (.slice ea0_255 a1.length ecap0_255) := below_later (hb_877) c_858; clear c_858
        have c_886 : w_29.cell? ⟨w_12.heap.size, 0, none⟩ = some (.slice ea0_289 r0.length ecap0_289) := below_later (hb_877) c_859; clear c_859
        have c_887 : w_29.cell? ⟨w_22.heap.size, 0, none⟩ = some (Value.slice none 0 0) := below_later (hb_877) c_869; clear c_869
        have f_888 : w_29.frozen? ⟨w_22.heap.size, 0, none⟩ = false := (Below.frozen (hb_877) (p := ⟨w_22.heap.size, 0, none⟩) (by show w_22.heap.size < _; first | omega | (simp; done) | (simp; omega))).trans f_870; clear f_870
        have RD_889 := Lib.hid (kSchema_ok.rbelow RD_860.out (Below.mono (hb_877) (by first | omega | (simp; done) | (simp; omega)))); clear RD_860
        have hz_890 : wc8.heap.size ≤ w_29.heap.size := Nat.le_trans hz_861 hz_878
        have OW_891 := Lib.hid (kSchema_ok.oframe OW_862.out (w' := w_29) fun b hm => (hb_877).block b (kSchema_ok.olt OW_862.out b hm)); clear OW_862
        have hz_892 : w_10.heap.size ≤ w_29.heap.size := Nat.le_trans hz_863 hz_878
        have OW_893 := Lib.hid (kSchema_ok.oframe OW_864.out (w' := w_29) fun b hm => (hb_877).block b (kSchema_ok.olt OW_864.out b hm)); clear OW_864
        have hz_894 : w_11.heap.size ≤ w_29.heap.size := Nat.le_trans hz_865 hz_878
        have OW_895 := Lib.hid (kSchema_ok.oframe OW_866.out (w' := w_29) fun b hm => (hb_877).block b (kSchema_ok.olt OW_866.out b hm)); clear OW_866
        have hz_896 : w_12.heap.size ≤ w_29.heap.size := Nat.le_trans hz_867 hz_878
        have HBLAST := Lib.hid hb_877
        have HQ := Lib.hid hb_877; clear hb_877 HQ
        have hz_897 : w_29.heap.size ≤ w_29.heap.size := Nat.le_refl _
        have HBASE_898 := Lib.hid (rstep HBASE_868.out HBLAST.out); clear HBLAST
        refine hK.out _ _ (Or.inr ?khHeld1037028) (fun hHeld1037028S => ?_)
        case khHeld1037028 => exact ⟨c_881, c_882⟩
        have hHeld1037028 := hHeld1037028S.held (by kernel_rfl)
        clear hK K
        try simp only [Act.put, List.setIfInBounds_toArray, List.set_cons_zero, List.set_cons_succ]
        refine wpG_one (i := 3) (o := { dst := some 98, op := Go.Op.call { callee := Go.Callee.value (Go.Operand.func 8), args := #[Go.Operand.tmp 97], argTypes := #[24] }, type := 28, pos := "exact.go:5342", after := #[{ on := 2, ground := Go.Ground.data }, { on := 1, ground := Go.Ground.chain }], guard := none }) rfl (by kernel_rfl) (fun K hK => ?_)
        go_simp
        refine (HTO1.out _ (box2_below HB_879.out)).mono ?_
        rintro e w_30 ⟨cs_899, fp_899, he, ho, hnd, hge, hb⟩
        have hrd := kSchema_ok.ord ho (B := w_30.heap.size) (kSchema_ok.olt ho)
        obtain ⟨ea0_899, ecap0_899, rfl, _⟩ := Schema_rd hrd
        change e = .returned (.agg #[.slice ea0_899 a1.length ecap0_899]) at he
        subst he
        have hrd2 := kSchema_ok.ord ho (B := w_30.heap.size) (kSchema_ok.olt ho)
        have OW_900 := Lib.hid ho; have HN_903 := Lib.hid hnd
        have HL_901 : Hid (∀ b ∈ fp_899, w_29.heap.size ≤ b) := Lib.hid fun b hm => by have := hge b hm; first | omega | (simp at this; omega)
        have HH_902 : Hid (∀ b ∈ fp_899, b < w_30.heap.size) := Lib.hid (kSchema_ok.olt ho)
        have RD_904 := Lib.hid hrd2; clear ho hnd hge hrd2 hrd
        have hb_905 := hb; clear hb
        have hz_906 : w_29.heap.size ≤ w_30.heap.size := by have := (hb_905).size; first | omega | (simp at this; omega)
        have HB_907 := Lib.hid (box2_step HB_879.out hb_905)
        have hz_908 : w.heap.size + 2 ≤ w_30.heap.size := Nat.le_trans hz_880 hz_906
        have c_909 : w_30.cell? ⟨w.heap.size, 0, none⟩ = some (.slice ea0_0 a0.length ecap0_0) := below_later (hb_905) c_881; clear c_881
        have c_910 : w_30.cell? ⟨w.heap.size + 1, 0, none⟩ = some (.slice ea1_0 a1.length ecap1_0) := below_later (hb_905) c_882; clear c_882
        have c_911 : w_30.cell? ⟨B8, 0, none⟩ = some (.slice ec0_8 r0.length cc0_8) := below_later (hb_905) c_883; clear c_883
        have c_912 : w_30.cell? ⟨w_10.heap.size, 0, none⟩ = some (.slice ea0_227 a0.length ecap0_227) := below_later (hb_905) c_884; clear c_884
        have c_913 : w_30.cell? ⟨w_11.heap.size, 0, none⟩ = some (.slice ea0_255 a1.length ecap0_255) := below_later (hb_905) c_885; clear c_885
        have c_914 : w_30.cell? ⟨w_12.heap.size, 0, none⟩ = some (.slice ea0_289 r0.length ecap0_289) := below_later (hb_905) c_886; clear c_886
        have c_915 : w_30.cell? ⟨w_22.heap.size, 0, none⟩ = some (Value.slice none 0 0) := below_later (hb_905) c_887; clear c_887
        have f_916 : w_30.frozen? ⟨w_22.heap.size, 0, none⟩ = false := (Below.frozen (hb_905) (p := ⟨w_22.heap.size, 0, none⟩) (by show w_22.heap.size < _; first | omega | (simp; done) | (simp; omega))).trans f_888; clear f_888
        have RD_917 := Lib.hid (kSchema_ok.rbelow RD_889.out (Below.mono (hb_905) (by first | omega | (simp; done) | (simp; omega)))); clear RD_889
        have hz_918 : wc8.heap.size ≤ w_30.heap.size := Nat.le_trans hz_890 hz_906
        have RD_919 := Lib.hid (kSchema_ok.rbelow RD_876.out (Below.mono (hb_905) (by first | omega | (simp; done) | (simp; omega)))); clear RD_876
        have hz_920 : w_29.heap.size ≤ w_30.heap.size := Nat.le_trans hz_897 hz_906
        have OW_921 := Lib.hid (kSchema_ok.oframe OW_891.out (w' := w_30) fun b hm => (hb_905).block b (kSchema_ok.olt OW_891.out b hm)); clear OW_891
        have hz_922 : w_10.heap.size ≤ w_30.heap.size := Nat.le_trans hz_892 hz_906
        have OW_923 := Lib.hid (kSchema_ok.oframe OW_893.out (w' := w_30) fun b hm => (hb_905).block b (kSchema_ok.olt OW_893.out b hm)); clear OW_893
        have hz_924 : w_11.heap.size ≤ w_30.heap.size := Nat.le_trans hz_894 hz_906
        have OW_925 := Lib.hid (kSchema_ok.oframe OW_895.out (w' := w_30) fun b hm => (hb_905).block b (kSchema_ok.olt OW_895.out b hm)); clear OW_895
        have hz_926 : w_12.heap.size ≤ w_30.heap.size := Nat.le_trans hz_896 hz_906
        have HBLAST := Lib.hid hb_905
        have HQ := Lib.hid hb_905; clear hb_905 HQ
        have hz_927 : w_30.heap.size ≤ w_30.heap.size := Nat.le_refl _
        have HBASE_928 := Lib.hid (rstep HBASE_898.out HBLAST.out); clear HBLAST
        refine hK.out _ _ (Or.inl (by kernel_rfl)) (fun _ => ?_)
        clear hK K
        try simp only [Act.put, List.setIfInBounds_toArray, List.set_cons_zero, List.set_cons_succ]
        refine wpG_one (i := 4) (o := { dst := some 99, op := Go.Op.call { callee := Go.Callee.value (Go.Operand.func 9), args := #[Go.Operand.tmp 96, Go.Operand.tmp 98], argTypes := #[28, 28] }, type := 29, pos := "exact.go:5342", after := #[{ on := 1, ground := Go.Ground.data }, { on := 3, ground := Go.Ground.data }, { on := 3, ground := Go.Ground.chain }], guard := none }) rfl (by kernel_rfl) (fun K hK => ?_)
        go_simp
        refine (HI.out _ [.slice ea0_871 a0.length ecap0_871] [.slice ea0_899 a1.length ecap0_899] (kSchema_ok.rmono RD_919.out (by first | omega | (simp; done) | (simp; omega))) (kSchema_ok.rmono RD_904.out (by first | omega | (simp; done) | (simp; omega)))).mono ?_
        rintro e w_31 ⟨cs_929, fp_929, he, ho, hnd, hge, hb⟩
        have hrd := kSchema_ok.ord ho (B := w_31.heap.size) (kSchema_ok.olt ho)
        obtain ⟨ea0_929, ecap0_929, rfl⟩ : ∃ ea0_929 ecap0_929, cs_929 = [.slice ea0_929 r0.length ecap0_929] := by
          obtain ⟨ea0_929, ecap0_929, h, _⟩ := Schema_rd hrd
          exact ⟨ea0_929, ecap0_929, h⟩
        change e = .returned (.tuple #[(.agg #[.slice ea0_929 r0.length ecap0_929]), (.bool r1)]) at he
        subst he
        have RD_930 := Lib.hid hrd; clear hrd
        have OW_931 := Lib.hid ho; have HN_934 := Lib.hid hnd
        have HL_932 : Hid (∀ b ∈ fp_929, w_30.heap.size ≤ b) := Lib.hid fun b hm => by have := hge b hm; first | omega | (simp at this; omega)
        have HH_933 : Hid (∀ b ∈ fp_929, b < w_31.heap.size) := Lib.hid (kSchema_ok.olt ho)
        clear ho hnd hge
        have hb_935 := hb; clear hb
        have hz_936 : w_30.heap.size ≤ w_31.heap.size := by have := (hb_935).size; first | omega | (simp at this; omega)
        have HB_937 := Lib.hid (box2_step HB_907.out hb_935)
        have hz_938 : w.heap.size + 2 ≤ w_31.heap.size := Nat.le_trans hz_908 hz_936
        have c_939 : w_31.cell? ⟨w.heap.size, 0, none⟩ = some (.slice ea0_0 a0.length ecap0_0) := below_later (hb_935) c_909; clear c_909
        have c_940 : w_31.cell? ⟨w.heap.size + 1, 0, none⟩ = some (.slice ea1_0 a1.length ecap1_0) := below_later (hb_935) c_910; clear c_910
        have c_941 : w_31.cell? ⟨B8, 0, none⟩ = some (.slice ec0_8 r0.length cc0_8) := below_later (hb_935) c_911; clear c_911
        have c_942 : w_31.cell? ⟨w_10.heap.size, 0, none⟩ = some (.slice ea0_227 a0.length ecap0_227) := below_later (hb_935) c_912; clear c_912
        have c_943 : w_31.cell? ⟨w_11.heap.size, 0, none⟩ = some (.slice ea0_255 a1.length ecap0_255) := below_later (hb_935) c_913; clear c_913
        have c_944 : w_31.cell? ⟨w_12.heap.size, 0, none⟩ = some (.slice ea0_289 r0.length ecap0_289) := below_later (hb_935) c_914; clear c_914
        have c_945 : w_31.cell? ⟨w_22.heap.size, 0, none⟩ = some (Value.slice none 0 0) := below_later (hb_935) c_915; clear c_915
        have f_946 : w_31.frozen? ⟨w_22.heap.size, 0, none⟩ = false := (Below.frozen (hb_935) (p := ⟨w_22.heap.size, 0, none⟩) (by show w_22.heap.size < _; first | omega | (simp; done) | (simp; omega))).trans f_916; clear f_916
        have RD_947 := Lib.hid (kSchema_ok.rbelow RD_917.out (Below.mono (hb_935) (by first | omega | (simp; done) | (simp; omega)))); clear RD_917
        have hz_948 : wc8.heap.size ≤ w_31.heap.size := Nat.le_trans hz_918 hz_936
        have RD_949 := Lib.hid (kSchema_ok.rbelow RD_919.out (Below.mono (hb_935) (by first | omega | (simp; done) | (simp; omega)))); clear RD_919
        have hz_950 : w_29.heap.size ≤ w_31.heap.size := Nat.le_trans hz_920 hz_936
        have RD_951 := Lib.hid (kSchema_ok.rbelow RD_904.out (Below.mono (hb_935) (by first | omega | (simp; done) | (simp; omega)))); clear RD_904
        have hz_952 : w_30.heap.size ≤ w_31.heap.size := Nat.le_trans hz_927 hz_936
        have OW_953 := Lib.hid (kSchema_ok.oframe OW_921.out (w' := w_31) fun b hm => (hb_935).block b (kSchema_ok.olt OW_921.out b hm)); clear OW_921
        have hz_954 : w_10.heap.size ≤ w_31.heap.size := Nat.le_trans hz_922 hz_936
        have OW_955 := Lib.hid (kSchema_ok.oframe OW_923.out (w' := w_31) fun b hm => (hb_935).block b (kSchema_ok.olt OW_923.out b hm)); clear OW_923
        have hz_956 : w_11.heap.size ≤ w_31.heap.size := Nat.le_trans hz_924 hz_936
        have OW_957 := Lib.hid (kSchema_ok.oframe OW_925.out (w' := w_31) fun b hm => (hb_935).block b (kSchema_ok.olt OW_925.out b hm)); clear OW_925
        have hz_958 : w_12.heap.size ≤ w_31.heap.size := Nat.le_trans hz_926 hz_936
        have HBLAST := Lib.hid hb_935
        clear hb_935
        have hz_959 : w_31.heap.size ≤ w_31.heap.size := Nat.le_refl _
        have HBASE_960 := Lib.hid (rstep HBASE_928.out HBLAST.out); clear HBLAST
        refine hK.out _ _ (Or.inl (by kernel_rfl)) (fun _ => ?_)
        clear hK K
        try simp only [Act.put, List.setIfInBounds_toArray, List.set_cons_zero, List.set_cons_succ]
        refine wpG_pure (i := 5) (oi := { dst := some 94, op := Go.Op.move (Go.Operand.tmp 99), type := 29, pos := "exact.go:5342", after := #[{ on := 4, ground := Go.Ground.data }], guard := none }) (v := ?vg1037031) rfl (by kernel_rfl) (fun _ _ _ h => h) (Or.inl (by kernel_rfl)) (Or.inl ⟨by rfl, ?yg1037031⟩) ?_
        case yg1037031 => (intro wS _; go_simp <;> with_reducible rfl)
        try simp only [Act.put, List.setIfInBounds_toArray, List.set_cons_zero, List.set_cons_succ]
        refine wpG_pure (i := 6) (oi := { dst := some 100, op := Go.Op.extract (Go.Operand.tmp 94) 0, type := 28, pos := "exact.go:5342", after := #[{ on := 5, ground := Go.Ground.data }], guard := none }) (v := ?vg1037032) rfl (by kernel_rfl) (fun _ _ _ h => h) (Or.inl (by kernel_rfl)) (Or.inl ⟨by rfl, ?yg1037032⟩) ?_
        case yg1037032 => (intro wS _; go_simp <;> with_reducible rfl)
        try simp only [Act.put, List.setIfInBounds_toArray, List.set_cons_zero, List.set_cons_succ]
        refine wpG_pure (i := 7) (oi := { dst := some 101, op := Go.Op.extract (Go.Operand.tmp 94) 1, type := 4, pos := "exact.go:5342", after := #[{ on := 5, ground := Go.Ground.data }, { on := 9, ground := Go.Ground.gcOnly Go.Departure.lateStores }], guard := none }) (v := ?vg1037033) rfl (by kernel_rfl) (fun _ _ _ h => h) (Or.inl (by kernel_rfl)) (Or.inl ⟨by rfl, ?yg1037033⟩) ?_
        case yg1037033 => (intro wS _; go_simp <;> with_reducible rfl)
        try simp only [Act.put, List.setIfInBounds_toArray, List.set_cons_zero, List.set_cons_succ]
        refine wpG_one (i := 9) (o := { dst := none, op := Go.Op.store 28 (Go.Operand.tmp 15) (Go.Operand.tmp 100), type := 0, pos := "exact.go:5342", after := #[{ on := 8, ground := Go.Ground.data }, { on := 6, ground := Go.Ground.data }, { on := 4, ground := Go.Ground.chain }, { on := 0, ground := Go.Ground.phase }, { on := 1, ground := Go.Ground.phase }, { on := 2, ground := Go.Ground.phase }, { on := 3, ground := Go.Ground.phase }, { on := 4, ground := Go.Ground.phase }, { on := 5, ground := Go.Ground.phase }, { on := 6, ground := Go.Ground.phase }, { on := 7, ground := Go.Ground.textOnly Go.Departure.lateStores }, { on := 8, ground := Go.Ground.phase }], guard := none }) rfl (by kernel_rfl) (fun K hK => ?_)
        go_simp
        refine hK.out _ _ (Or.inl (by kernel_rfl)) (fun _ => ?_)
        clear hK K
        try simp only [Act.put, List.setIfInBounds_toArray, List.set_cons_zero, List.set_cons_succ]
        refine wpG_pure (i := 10) (oi := { dst := some 16, op := Go.Op.assign (Go.Operand.tmp 101), type := 4, pos := "exact.go:5342", after := #[{ on := 7, ground := Go.Ground.data }, { on := 9, ground := Go.Ground.chain }, { on := 0, ground := Go.Ground.phase }, { on := 1, ground := Go.Ground.phase }, { on := 2, ground := Go.Ground.phase }, { on := 3, ground := Go.Ground.phase }, { on := 4, ground := Go.Ground.phase }, { on := 5, ground := Go.Ground.phase }, { on := 6, ground := Go.Ground.phase }, { on := 7, ground := Go.Ground.phase }, { on := 8, ground := Go.Ground.phase }, { on := 9, ground := Go.Ground.phase }], guard := none }) (v := ?vg1037035) rfl (by kernel_rfl) (fun _ _ _ h => h) (Or.inl (by kernel_rfl)) (Or.inl ⟨by rfl, ?yg1037035⟩) ?_
        case yg1037035 => (intro wS _; go_simp <;> with_reducible rfl)
        try simp only [Act.put, List.setIfInBounds_toArray, List.set_cons_zero, List.set_cons_succ]
        refine wpG_done (by kernel_rfl) ?_
        go_wp2_with fail
        go_meet
        have hrdf : kSchema.rd (w_31.setCell ⟨w_22.heap.size, 0, none⟩ (.slice ea0_929 r0.length ecap0_929)).heap.size (w_31.setCell ⟨w_22.heap.size, 0, none⟩ (.slice ea0_929 r0.length ecap0_929)) [.slice ea0_929 r0.length ecap0_929] r0 := kSchema_ok.ord (kSchema_ok.oframe OW_931.out (fun b hm => by rw [Below.heap_setCell _ _ _ _ (by show b ≠ w_22.heap.size; have := HL_932.out b hm; omega)])) (fun b hm => by have := HH_933.out b hm; first | omega | (simp; done) | (simp; omega))
        have hbf : Below w_22.heap.size w_22 (w_31.setCell ⟨w_22.heap.size, 0, none⟩ (.slice ea0_929 r0.length ecap0_929)) := (HBASE_960.out.setCell (p := ⟨w_22.heap.size, 0, none⟩) (by show w_22.heap.size ≤ w_22.heap.size; omega) _)
        exact ⟨_, _, _, rfl, rfl, Lib.hid ⟨by go_simp, hrdf, hbf, by first | omega | (simp; done) | (simp; omega), by first | omega | (simp; done) | (simp; omega)⟩⟩
    case rest =>
      obtain ⟨B31, ec0_31, cc0_31, rfl, rfl, HCUT31⟩ := hcut
      obtain ⟨wc31, rfl⟩ : ∃ z : World, z = wc := ⟨_, rfl⟩
      obtain ⟨hcc0_31, hrdc, hbc, hB0_31, hB1_31⟩ := HCUT31.out
      have RD_961 := Lib.hid hrdc; clear hrdc
      have hb_962 := hbc; clear hbc
      have hz_963 : w_22.heap.size ≤ wc31.heap.size := by have := (hb_962).size; first | omega | (simp at this; omega)
      have HB_964 := Lib.hid (box2_step HB_561.out hb_962)
      have hz_965 : w.heap.size + 2 ≤ wc31.heap.size := Nat.le_trans hz_562 hz_963
      have c_966 : wc31.cell? ⟨w.heap.size, 0, none⟩ = some (.slice ea0_0 a0.length ecap0_0) := below_later (hb_962) c_563; clear c_563
      have c_967 : wc31.cell? ⟨w.heap.size + 1, 0, none⟩ = some (.slice ea1_0 a1.length ecap1_0) := below_later (hb_962) c_564; clear c_564
      have c_968 : wc31.cell? ⟨B8, 0, none⟩ = some (.slice ec0_8 r0.length cc0_8) := below_later (hb_962) c_565; clear c_565
      have c_969 : wc31.cell? ⟨w_10.heap.size, 0, none⟩ = some (.slice ea0_227 a0.length ecap0_227) := below_later (hb_962) c_566; clear c_566
      have c_970 : wc31.cell? ⟨w_11.heap.size, 0, none⟩ = some (.slice ea0_255 a1.length ecap0_255) := below_later (hb_962) c_567; clear c_567
      have c_971 : wc31.cell? ⟨w_12.heap.size, 0, none⟩ = some (.slice ea0_289 r0.length ecap0_289) := below_later (hb_962) c_568; clear c_568
      have RD_972 := Lib.hid (kSchema_ok.rbelow RD_569.out (Below.mono (hb_962) (by first | omega | (simp; done) | (simp; omega)))); clear RD_569
      have hz_973 : wc8.heap.size ≤ wc31.heap.size := Nat.le_trans hz_570 hz_963
      have OW_974 := Lib.hid (kSchema_ok.oframe OW_571.out (w' := wc31) fun b hm => (hb_962).block b (kSchema_ok.olt OW_571.out b hm)); clear OW_571
      have hz_975 : w_10.heap.size ≤ wc31.heap.size := Nat.le_trans hz_572 hz_963
      have OW_976 := Lib.hid (kSchema_ok.oframe OW_573.out (w' := wc31) fun b hm => (hb_962).block b (kSchema_ok.olt OW_573.out b hm)); clear OW_573
      have hz_977 : w_11.heap.size ≤ wc31.heap.size := Nat.le_trans hz_574 hz_963
      have OW_978 := Lib.hid (kSchema_ok.oframe OW_575.out (w' := wc31) fun b hm => (hb_962).block b (kSchema_ok.olt OW_575.out b hm)); clear OW_575
      have hz_979 : w_12.heap.size ≤ wc31.heap.size := Nat.le_trans hz_576 hz_963
      clear hb_962
      have hz_980 : wc31.heap.size ≤ wc31.heap.size := Nat.le_refl _
      go_wp2_with fail
      refine (eq_Schema (w := wc31) (kSchema_ok.rmono RD_961.out (by first | omega | (simp; done) | (simp; omega))) (kSchema_ok.rmono RD_972.out (by first | omega | (simp; done) | (simp; omega)))).mono ?_
      rintro e w_32 ⟨rfl, hb⟩
      have hb_981 := hb; clear hb
      have hz_982 : wc31.heap.size ≤ w_32.heap.size := by have := (hb_981).size; first | omega | (simp at this; omega)
      have HB_983 := Lib.hid (box2_step HB_964.out hb_981)
      have hz_984 : w.heap.size + 2 ≤ w_32.heap.size := Nat.le_trans hz_965 hz_982
      have c_985 : w_32.cell? ⟨w.heap.size, 0, none⟩ = some (.slice ea0_0 a0.length ecap0_0) := below_later (hb_981) c_966; clear c_966
      have c_986 : w_32.cell? ⟨w.heap.size + 1, 0, none⟩ = some (.slice ea1_0 a1.length ecap1_0) := below_later (hb_981) c_967; clear c_967
      have c_987 : w_32.cell? ⟨B8, 0, none⟩ = some (.slice ec0_8 r0.length cc0_8) := below_later (hb_981) c_968; clear c_968
      have c_988 : w_32.cell? ⟨w_10.heap.size, 0, none⟩ = some (.slice ea0_227 a0.length ecap0_227) := below_later (hb_981) c_969; clear c_969
      have c_989 : w_32.cell? ⟨w_11.heap.size, 0, none⟩ = some (.slice ea0_255 a1.length ecap0_255) := below_later (hb_981) c_970; clear c_970
      have c_990 : w_32.cell? ⟨w_12.heap.size, 0, none⟩ = some (.slice ea0_289 r0.length ecap0_289) := below_later (hb_981) c_971; clear c_971
      have c_991 : w_32.cell? ⟨B31, 0, none⟩ = some (.slice ec0_31 r0.length cc0_31) := below_later (hb_981) hcc0_31; clear hcc0_31
      have RD_992 := Lib.hid (kSchema_ok.rbelow RD_972.out (Below.mono (hb_981) (by first | omega | (simp; done) | (simp; omega)))); clear RD_972
      have hz_993 : wc8.heap.size ≤ w_32.heap.size := Nat.le_trans hz_973 hz_982
      have RD_994 := Lib.hid (kSchema_ok.rbelow RD_961.out (Below.mono (hb_981) (by first | omega | (simp; done) | (simp; omega)))); clear RD_961
      have hz_995 : wc31.heap.size ≤ w_32.heap.size := Nat.le_trans hz_980 hz_982
      have OW_996 := Lib.hid (kSchema_ok.oframe OW_974.out (w' := w_32) fun b hm => (hb_981).block b (kSchema_ok.olt OW_974.out b hm)); clear OW_974
      have hz_997 : w_10.heap.size ≤ w_32.heap.size := Nat.le_trans hz_975 hz_982
      have OW_998 := Lib.hid (kSchema_ok.oframe OW_976.out (w' := w_32) fun b hm => (hb_981).block b (kSchema_ok.olt OW_976.out b hm)); clear OW_976
      have hz_999 : w_11.heap.size ≤ w_32.heap.size := Nat.le_trans hz_977 hz_982
      have OW_1000 := Lib.hid (kSchema_ok.oframe OW_978.out (w' := w_32) fun b hm => (hb_981).block b (kSchema_ok.olt OW_978.out b hm)); clear OW_978
      have hz_1001 : w_12.heap.size ≤ w_32.heap.size := Nat.le_trans hz_979 hz_982
      clear hb_981
      have hm_1002 := held_Schema (w := w_32) (x := r0) 1 (kSchema_ok.ord OW_1000.out (fun b hm => by have := HH_293.out b hm; first | omega | (simp; done) | (simp; omega))) (by omega) (by have := HCN.out; omega)
      rw [show ((1 : Nat) : Int) = 1 from rfl, HQ_538.out] at hm_1002
      have HM_1003 := Lib.hid hm_1002; clear hm_1002
      go_wp2_with fail
      refine HM_1003.out.mono ?_
      rintro e w_33 ⟨rfl, hb⟩
      have hb_1004 := hb; clear hb
      have hz_1005 : w_32.heap.size ≤ w_33.heap.size := by have := (hb_1004).size; first | omega | (simp at this; omega)
      have HB_1006 := Lib.hid (box2_step HB_983.out hb_1004)
      have hz_1007 : w.heap.size + 2 ≤ w_33.heap.size := Nat.le_trans hz_984 hz_1005
      have c_1008 : w_33.cell? ⟨w.heap.size, 0, none⟩ = some (.slice ea0_0 a0.length ecap0_0) := below_later (hb_1004) c_985; clear c_985
      have c_1009 : w_33.cell? ⟨w.heap.size + 1, 0, none⟩ = some (.slice ea1_0 a1.length ecap1_0) := below_later (hb_1004) c_986; clear c_986
      have c_1010 : w_33.cell? ⟨B8, 0, none⟩ = some (.slice ec0_8 r0.length cc0_8) := below_later (hb_1004) c_987; clear c_987
      have c_1011 : w_33.cell? ⟨w_10.heap.size, 0, none⟩ = some (.slice ea0_227 a0.length ecap0_227) := below_later (hb_1004) c_988; clear c_988
      have c_1012 : w_33.cell? ⟨w_11.heap.size, 0, none⟩ = some (.slice ea0_255 a1.length ecap0_255) := below_later (hb_1004) c_989; clear c_989
      have c_1013 : w_33.cell? ⟨w_12.heap.size, 0, none⟩ = some (.slice ea0_289 r0.length ecap0_289) := below_later (hb_1004) c_990; clear c_990
      have c_1014 : w_33.cell? ⟨B31, 0, none⟩ = some (.slice ec0_31 r0.length cc0_31) := below_later (hb_1004) c_991; clear c_991
      have RD_1015 := Lib.hid (kSchema_ok.rbelow RD_992.out (Below.mono (hb_1004) (by first | omega | (simp; done) | (simp; omega)))); clear RD_992
      have hz_1016 : wc8.heap.size ≤ w_33.heap.size := Nat.le_trans hz_993 hz_1005
      have RD_1017 := Lib.hid (kSchema_ok.rbelow RD_994.out (Below.mono (hb_1004) (by first | omega | (simp; done) | (simp; omega)))); clear RD_994
      have hz_1018 : wc31.heap.size ≤ w_33.heap.size := Nat.le_trans hz_995 hz_1005
      have OW_1019 := Lib.hid (kSchema_ok.oframe OW_996.out (w' := w_33) fun b hm => (hb_1004).block b (kSchema_ok.olt OW_996.out b hm)); clear OW_996
      have hz_1020 : w_10.heap.size ≤ w_33.heap.size := Nat.le_trans hz_997 hz_1005
      have OW_1021 := Lib.hid (kSchema_ok.oframe OW_998.out (w' := w_33) fun b hm => (hb_1004).block b (kSchema_ok.olt OW_998.out b hm)); clear OW_998
      have hz_1022 : w_11.heap.size ≤ w_33.heap.size := Nat.le_trans hz_999 hz_1005
      have OW_1023 := Lib.hid (kSchema_ok.oframe OW_1000.out (w' := w_33) fun b hm => (hb_1004).block b (kSchema_ok.olt OW_1000.out b hm)); clear OW_1000
      have hz_1024 : w_12.heap.size ≤ w_33.heap.size := Nat.le_trans hz_1001 hz_1005
      clear hb_1004
      have hneg_1025 : ¬ ((q_536 : Int) < 0) := by omega
      go_wp2_with fail
      go_ret
      exact ⟨rfl, (box2_below HB_1006.out)⟩

end Go.Proofs.Ytmlnecopbncdbaa.fnExactMeetOf
