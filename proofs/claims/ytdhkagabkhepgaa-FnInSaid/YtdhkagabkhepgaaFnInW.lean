/- The walk of FnIn: whatever the arguments, the call returns true and writes nothing that was there. -/
import Derived.Test.YtdhkagabkhepgaaArgs
import Derived.Deep.RegionHeld3
import Derived.Test.YtdhkagabkhepgaaCur7
import Derived.Test.YtdhkagabkhepgaaSame
import Derived.Test.YtdhkagabkhepgaaLogLaw
namespace Go.Proofs.Ytdhkagabkhepgaa.fnIn
open Go.ChangeShapes Go.WideShapes Go.ChangeAt Go.RowKit
open Go.ChangeMaps (open_string shut_string)
set_option linter.unusedVariables false

theorem bne_self (b : Bool) : (b != b) = false := by cases b <;> rfl
theorem beq_self' (b : Bool) : (b == b) = true := by cases b <;> rfl
theorem bneI_self (b : Int) : (b != b) = false := by simp
theorem beqI_self (b : Int) : (b == b) = true := by simp
theorem conv_bytes (w : World) (a : Option Addr) (c : Nat) (cs : List UInt8) (h : Rw w a (byts cs)) : ∃ s : ByteArray, (convert 51 9 (.slice a cs.length c)).run Try.prog w = .ok (.string s) w := by
  rcases h with h0 | ⟨b, off, rfl, hb, hc⟩
  · have hcs : cs = [] := by cases cs with
      | nil => rfl
      | cons x r => simp [byts] at h0
    subst hcs
    cases a with
    | none => exact ⟨_, run_convert_bytes_nil w 51 5 Try.underlying51 Try.underlying5 _ _ 9 Try.underlying9⟩
    | some ad =>
      refine ⟨ByteArray.empty, ?_⟩
      rw [List.length_nil, run_convert_bytes_string w 51 9 5 (some ad) 0 c Try.underlying51 Try.underlying5 Try.underlying9]
      simp [Conv.bytesToString]
      rfl
  · refine ⟨_, run_convert_bytes_arg w 51 5 Try.underlying51 Try.underlying5 b off cs.length c (cs.map fun x => (x.toNat : Int)) (by simp) (fun i hi => ?_) 9 Try.underlying9⟩
    have := hc i _ (byts_at cs i hi)
    rw [this]
    simp [List.getD, hi]

set_option maxHeartbeats 2000000 in
set_option maxRecDepth 100000 in
theorem walk (w : World) (v0 : Value) (a0 : List UInt8) (w0 : IsBytes w v0 a0) (v1 : Value) (a1 : List UInt8) (w1 : IsBytes w v1 a1) :
    Calls Try.prog 11 #[v0, v1] w fun e w' => e = .returned (.bool true) ∧ Below w.heap.size w w' := by
  obtain ⟨ca, cc, rfl, hr0, hl0, hm0⟩ := w0
  obtain ⟨ma, mc, rfl, hr1, hl1, hm1⟩ := w1
  unfold maxLen at hm0 hm1
  have HR0 := Lib.hid hr0; have HR1 := Lib.hid hr1
  clear hr0 hr1
  by_cases hsum : (1048576 : Int) < wrap64 ((a0.length : Int) + (a1.length : Int))
  case pos =>
    go_enter Try.func11, Try.ntmps11
    go_wp2_with fail
    go_ret
    exact ⟨rfl, Below.refl _ _⟩
  go_enter Try.func11, Try.ntmps11
  go_wp2_with fail
  clear hsum
  refine (draw_proveIn w ca cc a0 hl0 hm0 HR0.out.rb).mono ?_
  rintro e w1 ⟨v1, ss, k, rfl, ho, hs1, hs2, hk0, hk1, hb⟩
  have HB1 := Lib.hid hb
  obtain ⟨aa, ac, rfl⟩ := form_of_own ho
  have hqc := own_capsP ho
  have HO1 := Lib.hid ho; clear ho hb
  have hsz : ∀ s ∈ ss, s.size ≤ 9223372036854775807 := fun s hs => by have := hs2 s hs; omega
  have HPI := Lib.hid (fun wx hr => impl_ProveIn aa ac ss k wx hr hqc.1 hqc.2 (by omega) hsz)
  have HPS := Lib.hid (fun wx hr => spec_ProveIn aa ac ss k wx hr hqc.1 hqc.2 (by omega) hsz)
  have hpl : (ProveInR ss k).1.length ≤ ss.length := by
    unfold ProveInR
    split
    · exact pinL_len _ _ _
    · simp
  have hok : (ProveInR ss k).2 = true → logB ss = true ∧ 0 ≤ k ∧ k < ss.length ∧ (ProveInR ss k).1 = pinL ss.length ss k.toNat := by
    unfold ProveInR
    intro h
    split at h
    · rename_i hc
      rw [Bool.and_eq_true] at hc
      have := inB_of hc.2
      refine ⟨hc.1, by omega, by omega, ?_⟩
      rw [if_pos (by rw [Bool.and_eq_true]; exact hc)]
    · cases h
  generalize ProveInR ss k = R at *
  obtain ⟨p, ok⟩ := R
  have HOK := Lib.hid hok; clear hok
  have n0 := bne_self ok
  clear hs2
  go_wp2_with fail
  refine (HPI.out _ (own_rw HO1.out)).mono ?_
  rintro e w2 ⟨v2, rfl, ho2, hb2⟩
  obtain ⟨a2, c2, rfl⟩ := form_of_own ho2
  have hc2 := own_capsP ho2
  have hba : Below w2.heap.size w2 (w2.alloc (.cells #[.slice a2 p.length c2] 41)) := (Below.refl _ _).alloc (Nat.le_refl _) _
  replace HB1 := Lib.hid (rstep (rstep HB1.out hb2) hba); replace HO1 := Lib.hid (own_later (own_later HO1.out hb2) hba)
  have HO2 := Lib.hid (own_later ho2 hba)
  have k7 : (w2.alloc (.cells #[.slice a2 p.length c2] 41)).cell? ⟨w2.heap.size, 0, none⟩ = some (.slice a2 p.length c2) := by rw [World.cell?_alloc_new]; rfl
  have K7 := Lib.hid k7
  clear ho2 hb2 hba k7
  go_wp2_with fail
  generalize w2.alloc (.cells #[.slice a2 p.length c2] 41) = w3 at *
  generalize w2.heap.size = b7 at *
  refine (HPS.out _ (own_rw HO1.out)).mono ?_
  rintro e w4 ⟨v4, rfl, ho4, hb4⟩
  obtain ⟨a4, c4, rfl⟩ := form_of_own ho4
  have hba : Below w4.heap.size w4 (w4.alloc (.cells #[.slice a4 p.length c4] 41)) := (Below.refl _ _).alloc (Nat.le_refl _) _
  replace HB1 := Lib.hid (rstep (rstep HB1.out hb4) hba); replace HO1 := Lib.hid (own_later (own_later HO1.out hb4) hba)
  replace HO2 := Lib.hid (own_later (own_later HO2.out hb4) hba)
  have HO4 := Lib.hid (own_later ho4 hba)
  have k7 := below_later hba (below_later hb4 K7.out)
  have k9 : (w4.alloc (.cells #[.slice a4 p.length c4] 41)).cell? ⟨w4.heap.size, 0, none⟩ = some (.slice a4 p.length c4) := by rw [World.cell?_alloc_new]; rfl
  have hlt9 : w4.heap.size < (w4.alloc (.cells #[.slice a4 p.length c4] 41)).heap.size := by simp
  clear ho4 hb4 hba K7
  go_wp2_with fail
  generalize w4.alloc (.cells #[.slice a4 p.length c4] 41) = w5 at *
  generalize w4.heap.size = b9 at *
  have HRI := Lib.hid (fun wx hr => impl_rootOf aa ac ss wx hr hqc.1 hqc.2 (by omega) hsz)
  have HRS := Lib.hid (fun wx hr => spec_rootOf aa ac ss wx hr hqc.1 hqc.2 (by omega) hsz)
  have HRT : Hid (logB ss = true → RootOfR ss = (rootL ss, true)) := Lib.hid (fun h => by unfold RootOfR; rw [if_pos h])
  generalize RootOfR ss = RR at *
  obtain ⟨r1, r2⟩ := RR
  have n7 := bneI_self r1
  have n8 := bne_self r2
  refine (HRI.out _ (own_rw HO1.out)).mono ?_
  rintro e w' ⟨rfl, q, rfl⟩
  have hbq : Below w5.heap.size w5 (w5.drewN q) := below_drewN (Below.refl _ _) _
  replace HB1 := Lib.hid (rstep HB1.out hbq); replace HO1 := Lib.hid (own_later HO1.out hbq); replace HO2 := Lib.hid (own_later HO2.out hbq); replace HO4 := Lib.hid (own_later HO4.out hbq)
  replace k7 := below_later hbq k7; replace k9 := below_later hbq k9
  clear hbq hlt9
  generalize w5.drewN q = w51 at *
  go_wp2_with fail
  refine (HRS.out _ (own_rw HO1.out)).mono ?_
  rintro e w' ⟨rfl, q, rfl⟩
  have hbq : Below w51.heap.size w51 (w51.drewN q) := below_drewN (Below.refl _ _) _
  replace HB1 := Lib.hid (rstep HB1.out hbq); replace HO1 := Lib.hid (own_later HO1.out hbq); replace HO2 := Lib.hid (own_later HO2.out hbq); replace HO4 := Lib.hid (own_later HO4.out hbq)
  replace k7 := below_later hbq k7; replace k9 := below_later hbq k9
  clear hbq
  generalize w51.drewN q = w52 at *
  go_wp2_with fail
  refine (same_ints a2 a4 c2 c4 p p w52 (own_rw HO2.out) (own_rw HO4.out) (by omega) (by omega)).mono ?_
  rintro e w' ⟨rfl, q, rfl⟩
  have hbq : Below w52.heap.size w52 (w52.drewN q) := below_drewN (Below.refl _ _) _
  replace HB1 := Lib.hid (rstep HB1.out hbq); replace HO1 := Lib.hid (own_later HO1.out hbq); replace HO2 := Lib.hid (own_later HO2.out hbq); replace k7 := below_later hbq k7
  clear hbq k9 HO4 HRI HRS
  generalize w52.drewN q = w6 at *
  have hdd : decide (p = p) = true := by simp
  cases ok with
  | false =>
    go_wp2_with fail
    refine (draw_checkIn w6 ma mc a1 hl1 hm1 (HR1.out.below HB1.out).rb).mono ?_
    rintro e w20 ⟨r, many, q, s, v, pr, rfl, hs, ho, hpl, hb⟩
    have HB20 := Lib.hid (rstep HB1.out hb)
    obtain ⟨qa, qc, rfl⟩ := form_of_own ho
    have hqc := own_capsP ho
    have hba : Below w20.heap.size w20 (w20.alloc (.cells #[.slice qa pr.length qc] 41)) := (Below.refl _ _).alloc (Nat.le_refl _) _
    have HO20 := Lib.hid (own_later ho hba)
    have k24 : (w20.alloc (.cells #[.slice qa pr.length qc] 41)).cell? ⟨w20.heap.size, 0, none⟩ = some (.slice qa pr.length qc) := by rw [World.cell?_alloc_new]; rfl
    replace HB20 := Lib.hid (rstep HB20.out hba)
    clear ho hb hba
    have HCI := Lib.hid (fun wx hr => impl_checkIn r many q s qa qc pr wx (by unfold maxLen; omega) hr (by omega) hqc.1 hqc.2)
    have HCS := Lib.hid (fun wx hr => spec_checkIn r many q s qa qc pr wx (by unfold maxLen; omega) hr (by omega) hqc.1 hqc.2)
    clear hqc
    generalize CheckInR r many q s pr = R at *
    obtain ⟨x1, x2⟩ := R
    have n1 := beq_self' x1
    have n2 := beq_self' x2
    go_wp2_with fail
    generalize w20.alloc (.cells #[.slice qa pr.length qc] 41) = w21 at *
    generalize w20.heap.size = b24 at *
    refine (HCI.out _ (own_rw HO20.out)).mono ?_
    rintro e w22 ⟨rfl, hb⟩
    replace HB20 := Lib.hid (rstep HB20.out hb); replace HO20 := Lib.hid (own_later HO20.out hb); replace k24 := below_later hb k24
    clear hb
    go_wp2_with fail
    refine (HCS.out _ (own_rw HO20.out)).mono ?_
    rintro e w23 ⟨rfl, hb⟩
    replace HB20 := Lib.hid (rstep HB20.out hb)
    clear hb k24 HO20 HCI HCS
    go_wp2_with fail
    refine (draw_node w23 ma mc a1 hl1 hm1 (HR1.out.below HB20.out).rb).mono ?_
    rintro e w24 ⟨x, y, rfl, -, -, -, -, hb⟩
    replace HB20 := Lib.hid (rstep HB20.out hb); clear hb
    have HSI := Lib.hid (fun wx => impl_nodeSum x y wx)
    have HSS := Lib.hid (fun wx => spec_nodeSum x y wx)
    generalize NodeSumR x y = R at *
    obtain ⟨z1, z2⟩ := R
    have n3 := beqI_self z1
    have n4 := beq_self' z2
    go_wp2_with fail
    refine (HSI.out _).mono ?_
    rintro e w' ⟨rfl, rfl⟩
    go_wp2_with fail
    refine (HSS.out _).mono ?_
    rintro e w' ⟨rfl, rfl⟩
    clear HSI HSS
    go_wp2_with fail
    refine (draw_leaf w24 ma mc a1 hl1 hm1 (HR1.out.below HB20.out).rb).mono ?_
    rintro e w25 ⟨t, rfl, ht, hb⟩
    replace HB20 := Lib.hid (rstep HB20.out hb); clear hb
    have HLI := Lib.hid (fun wx => impl_leaf t wx (by unfold maxLen; omega))
    have HLS := Lib.hid (fun wx => spec_leaf t wx (by unfold maxLen; omega))
    generalize leaf t.data.toList = lf at *
    have n5 := beqI_self lf
    go_wp2_with fail
    refine (HLI.out _).mono ?_
    rintro e w' ⟨rfl, rfl⟩
    go_wp2_with fail
    refine (HLS.out _).mono ?_
    rintro e w' ⟨rfl, rfl⟩
    go_wp2_with fail
    go_ret
    exact ⟨rfl, HB20.out⟩
  | true =>
    obtain ⟨hlg, ho1, ho2, hp⟩ := HOK.out rfl
    obtain ⟨kn, rfl⟩ : ∃ n : Nat, k = (n : Int) := ⟨k.toNat, by omega⟩
    rw [Int.toNat_natCast] at hp
    have hR2 := HRT.out hlg
    simp only [Prod.mk.injEq] at hR2
    obtain ⟨rfl, rfl⟩ := hR2
    obtain ⟨ag, hag⟩ : ∃ g, aa = some ⟨g, 0, none⟩ := by
      obtain ⟨g, c', hv, _⟩ := HO1.out.form (by omega)
      simp only [Value.slice.injEq] at hv
      exact ⟨g, hv.1⟩
    subst hag
    have hkl : kn < ss.length := by omega
    have HCG := Lib.hid (fun (s : ByteArray) (hs : s.size ≤ 20) => checkIn_law ss kn s hlg hkl hs)
    rw [← hp] at HCG
    have hsk := log_at hlg kn hkl
    generalize rootL ss = root at *
    have HC := Lib.hid (strs_at ss kn hkl)
    generalize ss.getD kn ByteArray.empty = sk at *
    have hcell := HO1.out.cellAt kn (by omega)
    rw [HC.out] at hcell
    have HIC := Lib.hid (fun (s : ByteArray) (hs : s.size ≤ 20) (wx : World) (hr : Rw wx a2 (ints p)) => impl_checkIn root (ss.length : Int) (kn : Int) s a2 c2 p wx (by unfold maxLen; omega) hr (by omega) hc2.1 hc2.2)
    clear HOK HRT hp HPI HPS
    have HT := Lib.hid (HIC.out sk hsk w6.drew (own_rw HO2.out))
    rw [HCG.out sk hsk, decide_eq_true (rfl : leaf sk.data.toList = leaf sk.data.toList)] at HT
    have hkz : (kn : Int) < (ss.length : Int) := by omega
    go_wp2_with fail
    refine wp_region_G [9] (fun w' => w'.cell? ⟨ag, kn, none⟩ = some (.string sk) ∧ w'.cell? ⟨b7, 0, none⟩ = some (.slice a2 p.length c2)) (by kernel_rfl) ?_ (fun hHeld => ?_)
    · exact ⟨hcell, k7⟩
    refine wpG_pure (i := 0) (oi := { dst := some 92, op := Go.Op.move (Go.Operand.tmp 11), type := 3, pos := "laws.go:1210", after := #[], guard := none }) (v := ?vg1) rfl (by kernel_rfl) (fun _ _ _ h => h) (Or.inr hHeld) (Or.inl ⟨by rfl, ?yg1⟩) ?_
    case yg1 => (intro wS _; go_simp <;> with_reducible rfl)
    try simp only [Act.put, List.setIfInBounds_toArray, List.set_cons_zero, List.set_cons_succ]
    refine wpG_pure (i := 1) (oi := { dst := some 93, op := Go.Op.move (Go.Operand.tmp 5), type := 29, pos := "laws.go:1210", after := #[], guard := none }) (v := ?vg2) rfl (by kernel_rfl) (fun _ _ _ h => h) (Or.inr hHeld) (Or.inl ⟨by rfl, ?yg2⟩) ?_
    case yg2 => (intro wS _; go_simp <;> with_reducible rfl)
    try simp only [Act.put, List.setIfInBounds_toArray, List.set_cons_zero, List.set_cons_succ]
    refine wpG_pure (i := 2) (oi := { dst := some 94, op := Go.Op.call { callee := Go.Callee.builtin Go.Builtin.len, args := #[Go.Operand.tmp 93], argTypes := #[29] }, type := 3, pos := "laws.go:1210", after := #[{ on := 1, ground := Go.Ground.data }], guard := none }) (v := ?vg3) rfl (by kernel_rfl) (fun _ _ _ h => h) (Or.inr hHeld) (Or.inl ⟨by rfl, ?yg3⟩) ?_
    case yg3 => (intro wS _; go_simp <;> with_reducible rfl)
    try simp only [Act.put, List.setIfInBounds_toArray, List.set_cons_zero, List.set_cons_succ]
    refine wpG_pure (i := 3) (oi := { dst := some 95, op := Go.Op.move (Go.Operand.tmp 6), type := 3, pos := "laws.go:1210", after := #[], guard := none }) (v := ?vg4) rfl (by kernel_rfl) (fun _ _ _ h => h) (Or.inr hHeld) (Or.inl ⟨by rfl, ?yg4⟩) ?_
    case yg4 => (intro wS _; go_simp <;> with_reducible rfl)
    try simp only [Act.put, List.setIfInBounds_toArray, List.set_cons_zero, List.set_cons_succ]
    refine wpG_pure (i := 4) (oi := { dst := some 96, op := Go.Op.move (Go.Operand.tmp 5), type := 29, pos := "laws.go:1210", after := #[], guard := none }) (v := ?vg5) rfl (by kernel_rfl) (fun _ _ _ h => h) (Or.inr hHeld) (Or.inl ⟨by rfl, ?yg5⟩) ?_
    case yg5 => (intro wS _; go_simp <;> with_reducible rfl)
    try simp only [Act.put, List.setIfInBounds_toArray, List.set_cons_zero, List.set_cons_succ]
    refine wpG_pure (i := 5) (oi := { dst := some 97, op := Go.Op.move (Go.Operand.tmp 6), type := 3, pos := "laws.go:1210", after := #[], guard := none }) (v := ?vg6) rfl (by kernel_rfl) (fun _ _ _ h => h) (Or.inr hHeld) (Or.inl ⟨by rfl, ?yg6⟩) ?_
    case yg6 => (intro wS _; go_simp <;> with_reducible rfl)
    try simp only [Act.put, List.setIfInBounds_toArray, List.set_cons_zero, List.set_cons_succ]
    refine wpG_pure (i := 6) (oi := { dst := some 98, op := Go.Op.indexAddr 29 (Go.Operand.tmp 96) (Go.Operand.tmp 97), type := 0, pos := "laws.go:1210", after := #[{ on := 4, ground := Go.Ground.data }, { on := 5, ground := Go.Ground.data }], guard := none }) (v := ?vg7) rfl (by kernel_rfl) (fun _ _ _ h => h) (Or.inr hHeld) (Or.inl ⟨by rfl, ?yg7⟩) ?_
    case yg7 => (intro wS _; go_simp <;> with_reducible rfl)
    try simp only [Act.put, List.setIfInBounds_toArray, List.set_cons_zero, List.set_cons_succ]
    refine wpG_load (i := 7) (oi := { dst := some 99, op := Go.Op.load 9 (Go.Operand.tmp 98), type := 9, pos := "laws.go:1210", after := #[{ on := 6, ground := Go.Ground.data }], guard := none }) (v := ?vg8) [[9, 7]] rfl (by kernel_rfl) (fun _ _ _ h => h) hHeld (Or.inl ⟨by rfl, ?yg8⟩) ?_
    case yg8 => (intro wS hSw; (try dsimp only at hSw); go_simp <;> with_reducible rfl)
    try simp only [Act.put, List.setIfInBounds_toArray, List.set_cons_zero, List.set_cons_succ]
    refine wpG_load (i := 8) (oi := { dst := some 100, op := Go.Op.load 41 (Go.Operand.tmp 7), type := 41, pos := "laws.go:1210", after := #[], guard := none }) (v := ?vg9) [[9, 8]] rfl (by kernel_rfl) (fun _ _ _ h => h) hHeld (Or.inl ⟨by rfl, ?yg9⟩) ?_
    case yg9 => (intro wS hSw; (try dsimp only at hSw); go_simp <;> with_reducible rfl)
    try simp only [Act.put, List.setIfInBounds_toArray, List.set_cons_zero, List.set_cons_succ]
    refine wpG_one (i := 9) (o := { dst := some 101, op := Go.Op.call { callee := Go.Callee.value (Go.Operand.func 30), args := #[Go.Operand.tmp 92, Go.Operand.tmp 94, Go.Operand.tmp 95, Go.Operand.tmp 99, Go.Operand.tmp 100], argTypes := #[3, 3, 3, 9, 41] }, type := 39, pos := "laws.go:1210", after := #[{ on := 0, ground := Go.Ground.data }, { on := 2, ground := Go.Ground.data }, { on := 3, ground := Go.Ground.data }, { on := 7, ground := Go.Ground.data }, { on := 8, ground := Go.Ground.data }], guard := none }) rfl (by kernel_rfl) (fun K hK => ?_)
    go_simp
    refine HT.out.mono ?_
    rintro e w9 ⟨rfl, hb9⟩
    refine hK.out _ _ (Or.inl (by kernel_rfl)) (fun _ => ?_)
    clear hK K
    try simp only [Act.put, List.setIfInBounds_toArray, List.set_cons_zero, List.set_cons_succ]
    refine wpG_pure (i := 10) (oi := { dst := some 91, op := Go.Op.move (Go.Operand.tmp 101), type := 39, pos := "laws.go:1210", after := #[{ on := 9, ground := Go.Ground.data }], guard := none }) (v := ?vg11) rfl (by kernel_rfl) (fun _ _ _ h => h) (Or.inl (by kernel_rfl)) (Or.inl ⟨by rfl, ?yg11⟩) ?_
    case yg11 => (intro wS _; go_simp <;> with_reducible rfl)
    try simp only [Act.put, List.setIfInBounds_toArray, List.set_cons_zero, List.set_cons_succ]
    refine wpG_pure (i := 11) (oi := { dst := some 102, op := Go.Op.extract (Go.Operand.tmp 91) 0, type := 4, pos := "laws.go:1210", after := #[{ on := 10, ground := Go.Ground.data }], guard := none }) (v := ?vg12) rfl (by kernel_rfl) (fun _ _ _ h => h) (Or.inl (by kernel_rfl)) (Or.inl ⟨by rfl, ?yg12⟩) ?_
    case yg12 => (intro wS _; go_simp <;> with_reducible rfl)
    try simp only [Act.put, List.setIfInBounds_toArray, List.set_cons_zero, List.set_cons_succ]
    refine wpG_pure (i := 12) (oi := { dst := some 103, op := Go.Op.extract (Go.Operand.tmp 91) 1, type := 4, pos := "laws.go:1210", after := #[{ on := 10, ground := Go.Ground.data }, { on := 13, ground := Go.Ground.gcOnly Go.Departure.lateStores }], guard := none }) (v := ?vg13) rfl (by kernel_rfl) (fun _ _ _ h => h) (Or.inl (by kernel_rfl)) (Or.inl ⟨by rfl, ?yg13⟩) ?_
    case yg13 => (intro wS _; go_simp <;> with_reducible rfl)
    try simp only [Act.put, List.setIfInBounds_toArray, List.set_cons_zero, List.set_cons_succ]
    refine wpG_pure (i := 13) (oi := { dst := some 15, op := Go.Op.assign (Go.Operand.tmp 102), type := 4, pos := "laws.go:1210", after := #[{ on := 11, ground := Go.Ground.data }, { on := 9, ground := Go.Ground.chain }, { on := 0, ground := Go.Ground.phase }, { on := 1, ground := Go.Ground.phase }, { on := 2, ground := Go.Ground.phase }, { on := 3, ground := Go.Ground.phase }, { on := 4, ground := Go.Ground.phase }, { on := 5, ground := Go.Ground.phase }, { on := 6, ground := Go.Ground.phase }, { on := 7, ground := Go.Ground.phase }, { on := 8, ground := Go.Ground.phase }, { on := 9, ground := Go.Ground.phase }, { on := 10, ground := Go.Ground.phase }, { on := 11, ground := Go.Ground.phase }, { on := 12, ground := Go.Ground.textOnly Go.Departure.lateStores }], guard := none }) (v := ?vg14) rfl (by kernel_rfl) (fun _ _ _ h => h) (Or.inl (by kernel_rfl)) (Or.inl ⟨by rfl, ?yg14⟩) ?_
    case yg14 => (intro wS _; go_simp <;> with_reducible rfl)
    try simp only [Act.put, List.setIfInBounds_toArray, List.set_cons_zero, List.set_cons_succ]
    refine wpG_pure (i := 14) (oi := { dst := some 16, op := Go.Op.assign (Go.Operand.tmp 103), type := 4, pos := "laws.go:1210", after := #[{ on := 12, ground := Go.Ground.data }, { on := 13, ground := Go.Ground.chain }, { on := 0, ground := Go.Ground.phase }, { on := 1, ground := Go.Ground.phase }, { on := 2, ground := Go.Ground.phase }, { on := 3, ground := Go.Ground.phase }, { on := 4, ground := Go.Ground.phase }, { on := 5, ground := Go.Ground.phase }, { on := 6, ground := Go.Ground.phase }, { on := 7, ground := Go.Ground.phase }, { on := 8, ground := Go.Ground.phase }, { on := 9, ground := Go.Ground.phase }, { on := 10, ground := Go.Ground.phase }, { on := 11, ground := Go.Ground.phase }, { on := 12, ground := Go.Ground.phase }, { on := 13, ground := Go.Ground.phase }], guard := none }) (v := ?vg15) rfl (by kernel_rfl) (fun _ _ _ h => h) (Or.inl (by kernel_rfl)) (Or.inl ⟨by rfl, ?yg15⟩) ?_
    case yg15 => (intro wS _; go_simp <;> with_reducible rfl)
    try simp only [Act.put, List.setIfInBounds_toArray, List.set_cons_zero, List.set_cons_succ]
    refine wpG_done (by kernel_rfl) ?_
    skip
    have hb10 : Below w6.heap.size w6 w9 := below_undrew hb9
    replace HB1 := Lib.hid (rstep HB1.out hb10); replace HO1 := Lib.hid (own_later HO1.out hb10); replace HO2 := Lib.hid (own_later HO2.out hb10)
    replace k7 := below_later hb10 k7; replace hcell := below_later hb10 hcell
    clear hb10 hb9 HT
    obtain ⟨so, hcv⟩ := conv_bytes w9 ma mc a1 (HR1.out.below HB1.out)
    by_cases hso : so.size ≤ 20
    case neg =>
      have hd : decide (so.size ≤ 20) = false := decide_eq_false hso
      have hd2 : decide ((so.size : Int) ≤ 20) = false := decide_eq_false (by omega)
      clear HIC HCG hcell
      go_wp2_with fail
      refine (draw_checkIn w9 ma mc a1 hl1 hm1 (HR1.out.below HB1.out).rb).mono ?_
      rintro e w20 ⟨r, many, q, s, v, pr, rfl, hs, ho, hpl, hb⟩
      have HB20 := Lib.hid (rstep HB1.out hb)
      obtain ⟨qa, qc, rfl⟩ := form_of_own ho
      have hqc := own_capsP ho
      have hba : Below w20.heap.size w20 (w20.alloc (.cells #[.slice qa pr.length qc] 41)) := (Below.refl _ _).alloc (Nat.le_refl _) _
      have HO20 := Lib.hid (own_later ho hba)
      have k24 : (w20.alloc (.cells #[.slice qa pr.length qc] 41)).cell? ⟨w20.heap.size, 0, none⟩ = some (.slice qa pr.length qc) := by rw [World.cell?_alloc_new]; rfl
      replace HB20 := Lib.hid (rstep HB20.out hba)
      clear ho hb hba
      have HCI := Lib.hid (fun wx hr => impl_checkIn r many q s qa qc pr wx (by unfold maxLen; omega) hr (by omega) hqc.1 hqc.2)
      have HCS := Lib.hid (fun wx hr => spec_checkIn r many q s qa qc pr wx (by unfold maxLen; omega) hr (by omega) hqc.1 hqc.2)
      clear hqc
      generalize CheckInR r many q s pr = R at *
      obtain ⟨x1, x2⟩ := R
      have n1 := beq_self' x1
      have n2 := beq_self' x2
      go_wp2_with fail
      generalize w20.alloc (.cells #[.slice qa pr.length qc] 41) = w21 at *
      generalize w20.heap.size = b24 at *
      refine (HCI.out _ (own_rw HO20.out)).mono ?_
      rintro e w22 ⟨rfl, hb⟩
      replace HB20 := Lib.hid (rstep HB20.out hb); replace HO20 := Lib.hid (own_later HO20.out hb); replace k24 := below_later hb k24
      clear hb
      go_wp2_with fail
      refine (HCS.out _ (own_rw HO20.out)).mono ?_
      rintro e w23 ⟨rfl, hb⟩
      replace HB20 := Lib.hid (rstep HB20.out hb)
      clear hb k24 HO20 HCI HCS
      go_wp2_with fail
      refine (draw_node w23 ma mc a1 hl1 hm1 (HR1.out.below HB20.out).rb).mono ?_
      rintro e w24 ⟨x, y, rfl, -, -, -, -, hb⟩
      replace HB20 := Lib.hid (rstep HB20.out hb); clear hb
      have HSI := Lib.hid (fun wx => impl_nodeSum x y wx)
      have HSS := Lib.hid (fun wx => spec_nodeSum x y wx)
      generalize NodeSumR x y = R at *
      obtain ⟨z1, z2⟩ := R
      have n3 := beqI_self z1
      have n4 := beq_self' z2
      go_wp2_with fail
      refine (HSI.out _).mono ?_
      rintro e w' ⟨rfl, rfl⟩
      go_wp2_with fail
      refine (HSS.out _).mono ?_
      rintro e w' ⟨rfl, rfl⟩
      clear HSI HSS
      go_wp2_with fail
      refine (draw_leaf w24 ma mc a1 hl1 hm1 (HR1.out.below HB20.out).rb).mono ?_
      rintro e w25 ⟨t, rfl, ht, hb⟩
      replace HB20 := Lib.hid (rstep HB20.out hb); clear hb
      have HLI := Lib.hid (fun wx => impl_leaf t wx (by unfold maxLen; omega))
      have HLS := Lib.hid (fun wx => spec_leaf t wx (by unfold maxLen; omega))
      generalize leaf t.data.toList = lf at *
      have n5 := beqI_self lf
      go_wp2_with fail
      refine (HLI.out _).mono ?_
      rintro e w' ⟨rfl, rfl⟩
      go_wp2_with fail
      refine (HLS.out _).mono ?_
      rintro e w' ⟨rfl, rfl⟩
      go_wp2_with fail
      go_ret
      exact ⟨rfl, HB20.out⟩
    have hd : decide (so.size ≤ 20) = true := decide_eq_true hso
    have hd2 : decide ((so.size : Int) ≤ 20) = true := decide_eq_true (by omega)
    have HT := Lib.hid (HIC.out so hso w9 (own_rw HO2.out))
    rw [HCG.out so hso] at HT
    have HL1 := Lib.hid (fun wx => impl_leaf so wx (by unfold maxLen; omega))
    have HL2 := Lib.hid (fun wx => impl_leaf sk wx (by unfold maxLen; omega))
    clear HIC HCG
    generalize leaf so.data.toList = l1 at *
    generalize leaf sk.data.toList = l2 at *
    by_cases hl : l1 = l2
    · subst hl
      rw [decide_eq_true (rfl : l1 = l1)] at HT
      have hx := beqI_self l1
      go_wp2_with fail
      refine HT.out.mono ?_
      rintro e w10 ⟨rfl, hb9⟩
      replace HB1 := Lib.hid (rstep HB1.out hb9); replace hcell := below_later hb9 hcell
      clear hb9 HT HO2 k7 hcv
      go_wp2_with fail
      go_quiet ((go_at_call 14; first | (with_reducible exact quiet_same (HL1.out _)) | (with_reducible exact quiet_same (HL2.out _))))
      go_wp2_with fail
      refine (draw_checkIn _ ma mc a1 hl1 hm1 (HR1.out.below (Lib.hid (rdrew HB1.out _)).out).rb).mono ?_
      rintro e w20 ⟨r, many, q, s, v, pr, rfl, hs, ho, hpl, hb⟩
      have HB20 := Lib.hid (rstep (Lib.hid (rdrew HB1.out _)).out hb)
      obtain ⟨qa, qc, rfl⟩ := form_of_own ho
      have hqc := own_capsP ho
      have hba : Below w20.heap.size w20 (w20.alloc (.cells #[.slice qa pr.length qc] 41)) := (Below.refl _ _).alloc (Nat.le_refl _) _
      have HO20 := Lib.hid (own_later ho hba)
      have k24 : (w20.alloc (.cells #[.slice qa pr.length qc] 41)).cell? ⟨w20.heap.size, 0, none⟩ = some (.slice qa pr.length qc) := by rw [World.cell?_alloc_new]; rfl
      replace HB20 := Lib.hid (rstep HB20.out hba)
      clear ho hb hba
      have HCI := Lib.hid (fun wx hr => impl_checkIn r many q s qa qc pr wx (by unfold maxLen; omega) hr (by omega) hqc.1 hqc.2)
      have HCS := Lib.hid (fun wx hr => spec_checkIn r many q s qa qc pr wx (by unfold maxLen; omega) hr (by omega) hqc.1 hqc.2)
      clear hqc
      generalize CheckInR r many q s pr = R at *
      obtain ⟨x1, x2⟩ := R
      have n1 := beq_self' x1
      have n2 := beq_self' x2
      go_wp2_with fail
      generalize w20.alloc (.cells #[.slice qa pr.length qc] 41) = w21 at *
      generalize w20.heap.size = b24 at *
      refine (HCI.out _ (own_rw HO20.out)).mono ?_
      rintro e w22 ⟨rfl, hb⟩
      replace HB20 := Lib.hid (rstep HB20.out hb); replace HO20 := Lib.hid (own_later HO20.out hb); replace k24 := below_later hb k24
      clear hb
      go_wp2_with fail
      refine (HCS.out _ (own_rw HO20.out)).mono ?_
      rintro e w23 ⟨rfl, hb⟩
      replace HB20 := Lib.hid (rstep HB20.out hb)
      clear hb k24 HO20 HCI HCS
      go_wp2_with fail
      refine (draw_node w23 ma mc a1 hl1 hm1 (HR1.out.below HB20.out).rb).mono ?_
      rintro e w24 ⟨x, y, rfl, -, -, -, -, hb⟩
      replace HB20 := Lib.hid (rstep HB20.out hb); clear hb
      have HSI := Lib.hid (fun wx => impl_nodeSum x y wx)
      have HSS := Lib.hid (fun wx => spec_nodeSum x y wx)
      generalize NodeSumR x y = R at *
      obtain ⟨z1, z2⟩ := R
      have n3 := beqI_self z1
      have n4 := beq_self' z2
      go_wp2_with fail
      refine (HSI.out _).mono ?_
      rintro e w' ⟨rfl, rfl⟩
      go_wp2_with fail
      refine (HSS.out _).mono ?_
      rintro e w' ⟨rfl, rfl⟩
      clear HSI HSS
      go_wp2_with fail
      refine (draw_leaf w24 ma mc a1 hl1 hm1 (HR1.out.below HB20.out).rb).mono ?_
      rintro e w25 ⟨t, rfl, ht, hb⟩
      replace HB20 := Lib.hid (rstep HB20.out hb); clear hb
      have HLI := Lib.hid (fun wx => impl_leaf t wx (by unfold maxLen; omega))
      have HLS := Lib.hid (fun wx => spec_leaf t wx (by unfold maxLen; omega))
      generalize leaf t.data.toList = lf at *
      have n5 := beqI_self lf
      go_wp2_with fail
      refine (HLI.out _).mono ?_
      rintro e w' ⟨rfl, rfl⟩
      go_wp2_with fail
      refine (HLS.out _).mono ?_
      rintro e w' ⟨rfl, rfl⟩
      go_wp2_with fail
      go_ret
      exact ⟨rfl, HB20.out⟩
    · rw [decide_eq_false hl] at HT
      have hx : (l1 == l2) = false := by simpa using hl
      clear hl
      go_wp2_with fail
      refine HT.out.mono ?_
      rintro e w10 ⟨rfl, hb9⟩
      replace HB1 := Lib.hid (rstep HB1.out hb9); replace hcell := below_later hb9 hcell
      clear hb9 HT HO2 k7 hcv
      go_wp2_with fail
      go_quiet ((go_at_call 14; first | (with_reducible exact quiet_same (HL1.out _)) | (with_reducible exact quiet_same (HL2.out _))))
      go_wp2_with fail
      refine (draw_checkIn _ ma mc a1 hl1 hm1 (HR1.out.below (Lib.hid (rdrew HB1.out _)).out).rb).mono ?_
      rintro e w20 ⟨r, many, q, s, v, pr, rfl, hs, ho, hpl, hb⟩
      have HB20 := Lib.hid (rstep (Lib.hid (rdrew HB1.out _)).out hb)
      obtain ⟨qa, qc, rfl⟩ := form_of_own ho
      have hqc := own_capsP ho
      have hba : Below w20.heap.size w20 (w20.alloc (.cells #[.slice qa pr.length qc] 41)) := (Below.refl _ _).alloc (Nat.le_refl _) _
      have HO20 := Lib.hid (own_later ho hba)
      have k24 : (w20.alloc (.cells #[.slice qa pr.length qc] 41)).cell? ⟨w20.heap.size, 0, none⟩ = some (.slice qa pr.length qc) := by rw [World.cell?_alloc_new]; rfl
      replace HB20 := Lib.hid (rstep HB20.out hba)
      clear ho hb hba
      have HCI := Lib.hid (fun wx hr => impl_checkIn r many q s qa qc pr wx (by unfold maxLen; omega) hr (by omega) hqc.1 hqc.2)
      have HCS := Lib.hid (fun wx hr => spec_checkIn r many q s qa qc pr wx (by unfold maxLen; omega) hr (by omega) hqc.1 hqc.2)
      clear hqc
      generalize CheckInR r many q s pr = R at *
      obtain ⟨x1, x2⟩ := R
      have n1 := beq_self' x1
      have n2 := beq_self' x2
      go_wp2_with fail
      generalize w20.alloc (.cells #[.slice qa pr.length qc] 41) = w21 at *
      generalize w20.heap.size = b24 at *
      refine (HCI.out _ (own_rw HO20.out)).mono ?_
      rintro e w22 ⟨rfl, hb⟩
      replace HB20 := Lib.hid (rstep HB20.out hb); replace HO20 := Lib.hid (own_later HO20.out hb); replace k24 := below_later hb k24
      clear hb
      go_wp2_with fail
      refine (HCS.out _ (own_rw HO20.out)).mono ?_
      rintro e w23 ⟨rfl, hb⟩
      replace HB20 := Lib.hid (rstep HB20.out hb)
      clear hb k24 HO20 HCI HCS
      go_wp2_with fail
      refine (draw_node w23 ma mc a1 hl1 hm1 (HR1.out.below HB20.out).rb).mono ?_
      rintro e w24 ⟨x, y, rfl, -, -, -, -, hb⟩
      replace HB20 := Lib.hid (rstep HB20.out hb); clear hb
      have HSI := Lib.hid (fun wx => impl_nodeSum x y wx)
      have HSS := Lib.hid (fun wx => spec_nodeSum x y wx)
      generalize NodeSumR x y = R at *
      obtain ⟨z1, z2⟩ := R
      have n3 := beqI_self z1
      have n4 := beq_self' z2
      go_wp2_with fail
      refine (HSI.out _).mono ?_
      rintro e w' ⟨rfl, rfl⟩
      go_wp2_with fail
      refine (HSS.out _).mono ?_
      rintro e w' ⟨rfl, rfl⟩
      clear HSI HSS
      go_wp2_with fail
      refine (draw_leaf w24 ma mc a1 hl1 hm1 (HR1.out.below HB20.out).rb).mono ?_
      rintro e w25 ⟨t, rfl, ht, hb⟩
      replace HB20 := Lib.hid (rstep HB20.out hb); clear hb
      have HLI := Lib.hid (fun wx => impl_leaf t wx (by unfold maxLen; omega))
      have HLS := Lib.hid (fun wx => spec_leaf t wx (by unfold maxLen; omega))
      generalize leaf t.data.toList = lf at *
      have n5 := beqI_self lf
      go_wp2_with fail
      refine (HLI.out _).mono ?_
      rintro e w' ⟨rfl, rfl⟩
      go_wp2_with fail
      refine (HLS.out _).mono ?_
      rintro e w' ⟨rfl, rfl⟩
      go_wp2_with fail
      go_ret
      exact ⟨rfl, HB20.out⟩

end Go.Proofs.Ytdhkagabkhepgaa.fnIn
