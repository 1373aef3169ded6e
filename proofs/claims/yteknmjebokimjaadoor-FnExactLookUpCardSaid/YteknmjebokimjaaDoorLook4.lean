/- The contracts of LookUp, the program's and the reference's. -/
import Derived.Test.YteknmjebokimjaaDoorLook3
import Derived.Test.YteknmjebokimjaaDoorTrie4
namespace Go.Proofs.YteknmjebokimjaaDoor
set_option linter.unusedVariables false
open Go.ChangeShapes Go.WideShapes Go.ChangeAt Go.RowKit
set_option maxRecDepth 100000

set_option maxHeartbeats 2000000 in
theorem levels_at (s : ByteArray) (w : World) (m : Int) (hs : s.size ≤ 1048576) (hm : w.cell? ⟨0, 0, none⟩ = some (.int .i64 m)) (hg : gPat s = true) : Calls Tryd.prog 44 #[.string s] w fun e w' => e = .returned (.slice (some ⟨w.heap.size, 0, none⟩) (pieces 47 s).length (pieces 47 s).length) ∧ Rw w' (some ⟨w.heap.size, 0, none⟩) (strs (pieces 47 s)) ∧ Below w.heap.size w w' := by
  have HSP := Lib.hid (fun (wx : World) (mx : Int) (h : wx.cell? ⟨0, 0, none⟩ = some (.int .i64 mx)) => Tryd.strings_Split s { data := #[47] } mx wx (by omega) h (by decide))
  have hn := pieces_le 47 s
  have hn1 : 1 ≤ (pieces 47 s).length := by have := pieces_ne 47 s; rcases hp : pieces 47 s with _ | ⟨x, r⟩; · exact absurd hp this
                                            · simp
  have H63 : Hid (∀ x ∈ pieces 47 s, x.size ≤ 9223372036854775807) := Lib.hid fun x hx => by have := pieces_size 47 s x hx; omega
  have HAL := Lib.hid (rw_alloc w (pieces 47 s) 9)
  rw [splitB_pieces] at HSP
  rw [countB_pieces] at HSP
  have HCM := Lib.hid (fun n => contains_more ((pieces 47 s).take n))
  have HDL := Lib.hid (dropLast_take (pieces 47 s))
  have HCE : Hid (∀ j, j < (pieces 47 s).length → (w.alloc (.cells ((pieces 47 s).map Value.string).toArray 9)).cell? ⟨w.heap.size, 0 + j, none⟩ = some (.string ((pieces 47 s).getD j ByteArray.empty))) := Lib.hid fun j hj => by
    rcases HAL.out with h | ⟨b, off, ha, _, hc⟩
    · have := congrArg List.length h; simp at this; rw [this] at hj; simp at hj
    · simp only [Option.some.injEq, Addr.mk.injEq, and_true] at ha
      obtain ⟨rfl, rfl⟩ := ha
      exact hc j _ (by simp [strs, hj])
  rcases gPat_cases s with ⟨h6, h⟩ | ⟨h6, h7, h⟩ | ⟨h6, h7, h⟩
  · rw [hg] at h; cases h
  · rw [hg] at h; cases h
  have h8 : (pieces 47 s).dropLast.any (fun x => decide (x = more)) = false := by rw [hg] at h; simpa using h.symm
  have HC1 := Lib.hid (fun (wx : World) (b off cap : Nat) (hrow : Rw wx (some ⟨b, off, none⟩) (strs (pieces 47 s))) => has_lev (some ⟨b, off, none⟩) cap (pieces 47 s) wx hrow (by omega) H63.out)
  rw [h7] at HC1
  rw [HDL.out, ← HCM.out] at h8
  have HC2 := Lib.hid (fun (wx : World) (b off cap : Nat) (hc : ∀ j, j < (pieces 47 s).length → wx.cell? ⟨b, off + j, none⟩ = some (.string ((pieces 47 s).getD j ByteArray.empty))) => Tryd.slices_Contains_string b off ((pieces 47 s).length - 1) cap (pieces 47 s) { data := #[35] } wx (by omega) (by omega) hc)
  rw [h8] at HC2
  clear h h7 h8 hg HDL HCM H63
  generalize pieces 47 s = xs at *
  have hi1 : ((xs.length : Int) - 1).toNat = xs.length - 1 := by omega
  have hi2 : (0 : Int) ≤ (xs.length : Int) - 1 := by omega
  go_enter Tryd.func44, Tryd.ntmps44
  go_wp2_with fail
  refine (HSP.out _ m hm).mono ?_
  rintro e w1 ⟨rfl, rfl⟩
  go_wp2_with (go_at_call 59; refine (HC1.out _ _ _ _ HAL.out).mono ?_; rintro e w' ⟨rfl, rfl⟩)
  all_goals try (go_at_call 75; refine (HC2.out _ _ _ _ HCE.out).mono ?_; rintro e w' ⟨rfl, rfl⟩; go_wp2_with fail)
  all_goals (go_ret; exact ⟨rfl, HAL.out, (Below.refl _ _).alloc (Nat.le_refl _) _⟩)
def LookOf (R : List Int × Int × Bool) (w : World) (e : Ending) (w' : World) : Prop :=
  ∃ v, e = .returned (.tuple #[v, .int .i64 R.2.1, .bool R.2.2]) ∧ w'.ownsRow w.heap.size 3 1 v R.1.length (ints R.1) ∧ Below w.heap.size w w'
set_option maxHeartbeats 2000000 in
theorem spec_look (w : World) (cs0 : List Value) (t : List Nd) (s : ByteArray) (h0 : kTrieNodeS.rd w.heap.size w cs0 t) (h1 : s.size ≤ 1048576) (ht : kTrieNodeS.wt t ≤ 1048576) :
    Calls Tryd.prog 21 #[one cs0, .string s] w (LookOf (R_LookUp t s) w) := by
  have HGT := Lib.hid (spec_GoodTrie w cs0 t h0 ht)
  have HTP := Lib.hid (fun wx (_ : Below w.heap.size w wx) => spec_goodTopic s wx h1)
  obtain ⟨a, cap, rfl⟩ := kSl_form h0
  change Hid (Calls Tryd.prog 51 #[.slice a t.length cap] w _) at HGT
  show Calls Tryd.prog 21 #[.slice a t.length cap, .string s] w _
  have hln := (sl_len h0).2
  have H := Lib.hid h0; clear h0
  unfold LookOf
  cases g0 : R_GoodTrie t with
  | false =>
    rw [R_Look_no (fun h => by rw [g0] at h; exact absurd h.1 (by decide))]
    rw [g0] at HGT
    clear g0
    go_enter Tryd.func21, Tryd.ntmps21
    go_wp2_with fail
    refine HGT.out.mono ?_
    rintro e w1 ⟨rfl, hb⟩
    have HB1 := Lib.hid hb; clear hb
    go_wp2_with fail
    go_ret3
    exact ⟨_, rfl, World.ownsRow_nil _ _ _ _, HB1.out⟩
  | true =>
  cases g1 : gTop s with
  | false =>
    rw [R_Look_no (fun h => by rw [g1] at h; exact absurd h.2 (by decide))]
    rw [g0] at HGT; rw [g1] at HTP
    clear g0 g1
    go_enter Tryd.func21, Tryd.ntmps21
    go_wp2_with fail
    refine HGT.out.mono ?_
    rintro e w1 ⟨rfl, hb⟩
    have HB1 := Lib.hid hb; clear hb
    go_wp2_with fail
    refine (HTP.out _ HB1.out).mono ?_
    rintro e w2 ⟨rfl, hb⟩
    have HB2 := Lib.hid (HB1.out.trans (hb.mono HB1.out.size)); clear hb
    go_wp2_with fail
    go_ret3
    exact ⟨_, rfl, World.ownsRow_nil _ _ _ _, HB2.out⟩
  | true =>
  rw [R_Look_yes ⟨g0, g1⟩]
  rw [g0] at HGT; rw [g1] at HTP
  obtain ⟨hl1, hl2, hroot, hr1, hw30⟩ := good_root g0
  have HGP := Lib.hid (gTop_gPat g1)
  obtain ⟨hp6, hpm⟩ := gTop_levels g1
  have hdb := down_bound hw30 hp6 0
  have HPM := Lib.hid hpm
  have HPZ : Hid (∀ x ∈ pieces 47 s, x.size ≤ maxLen) := Lib.hid fun x hx => by have := pieces_size 47 s x hx; unfold maxLen; omega
  have HNM : Hid ((nd t 0).1 ≠ more) := Lib.hid (by rw [hr1]; decide)
  clear g0 g1 hpm hr1
  generalize hD : downR t (pieces 47 s) 0 = D at *
  have HD := Lib.hid hD; clear hD
  have HSP := Lib.hid (fun wx => spec_splitO s wx h1)
  go_enter Tryd.func21, Tryd.ntmps21
  go_wp2_with fail
  refine HGT.out.mono ?_
  rintro e w1 ⟨rfl, hb⟩
  have HB1 := Lib.hid hb; clear hb
  go_wp2_with fail
  refine (HTP.out _ HB1.out).mono ?_
  rintro e w2 ⟨rfl, hb⟩
  have HB2 := Lib.hid (HB1.out.trans (hb.mono HB1.out.size)); clear hb
  go_wp2_with fail
  refine (HSP.out _).mono ?_
  rintro e w3 ⟨v3, rfl, ho3, hb3⟩
  have HB3 := Lib.hid (HB2.out.trans (hb3.mono HB2.out.size)); clear hb3
  obtain ⟨la, lcap, rfl⟩ := form_of_own ho3
  obtain ⟨hc1, hc2⟩ := own_caps ho3
  have hc3 : lcap ≤ 9223372036854775807 := by unfold maxLen at hc2; omega
  have HRL := Lib.hid (own_rw ho3)
  have HDN := Lib.hid (spec_down t a cap hl2 hw30 (pieces 47 s) 0 (pieces 47 s).length la lcap w3 (Lib.hid (kTrieNodeS_ok.later H.out HB3.out)) HRL (Lib.hid rfl) hc1 hc3 hp6 HPZ (by omega))
  clear ho3
  rw [HD.out] at HDN
  go_wp2_with fail
  refine HDN.out.mono ?_
  rintro e w4 ⟨v4, rfl, ho4, hb4⟩
  have HB4 := Lib.hid (HB3.out.trans (hb4.mono HB3.out.size)); clear hb4
  obtain ⟨da, dcap, rfl⟩ := form_of_own ho4
  obtain ⟨hd1, hd2⟩ := own_caps ho4
  have hd3 : dcap ≤ 9223372036854775807 := by unfold maxLen at hd2; omega
  have HRD := Lib.hid (own_rw ho4)
  clear ho4
  go_wp2_with fail
  go_loopw [9, 29] (fun ov iv wr => ∃ (i : Nat) (v : Value), i ≤ D.1.length ∧ iv = .int .i64 (i : Int) ∧ ov = v ∧ Hid (wr.ownsRow w.heap.size 3 1 v (puts [] (D.1.take i)).length (ints (puts [] (D.1.take i)))) ∧ Hid (Below w4.heap.size w4 wr)) (fun _ iv _ => D.1.length - (intOf iv).toNat)
  case atStart => exact ⟨0, _, by omega, rfl, rfl, Lib.hid (World.ownsRow_nil _ _ _ _), Below.refl _ _⟩
  case round =>
    obtain ⟨i, v, hil, rfl, rfl, HO, HB⟩ := hrel
    by_cases hlt : i < D.1.length
    case neg =>
      obtain rfl : i = D.1.length := by omega
      rw [List.take_length] at HO
      go_wp2_with fail
      go_ret3
      exact ⟨_, rfl, HO.out, HB4.out.trans (HB.out.mono HB4.out.size)⟩
    obtain ⟨bd, od, y, hy, rfl, hbd, hcy⟩ := intrw_cell (HRD.out.below HB.out) hlt
    have HPT := Lib.hid (puts_take [] D.1 i y hy)
    have hpl : (puts [] (D.1.take i)).length ≤ 5760 := by have h1 := puts_len [] (D.1.take i); rw [List.length_take] at h1; simp at h1; omega
    have HPU := Lib.hid (spec_put w.heap.size u9 (puts [] (D.1.take i)) y wr HO.out (Nat.le_trans HB4.out.size HB.out.size) (by omega))
    clear hy
    go_wp2_with fail
    refine HPU.out.mono ?_
    rintro e w5 ⟨v5, rfl, ho5, hb5⟩
    have HO5 := Lib.hid ho5; have HB5 := Lib.hid (HB.out.trans (hb5.mono HB.out.size)); clear ho5 hb5
    go_wp2_with fail
    go_roundw
    case rel => exact ⟨i + 1, _, by omega, by go_num, rfl, by rw [HPT.out]; exact HO5, HB5⟩
    case measure => simp [intOf]; omega
set_option maxHeartbeats 2000000 in
theorem impl_look (m : Int) (w : World) (cs0 : List Value) (t : List Nd) (s : ByteArray) (h0 : kTrieNodeS.rd w.heap.size w cs0 t) (h1 : s.size ≤ 1048576) (ht : kTrieNodeS.wt t ≤ 1048576) (hm : w.cell? ⟨0, 0, none⟩ = some (.int .i64 m)) :
    Calls Tryd.prog 23 #[one cs0, .string s] w (LookOf (R_LookUp t s) w) := by
  have HGT := Lib.hid (impl_GoodTrie w cs0 t h0 ht)
  have HTP := Lib.hid (fun wx (hb : Below w.heap.size w wx) => impl_goodTopic s wx m h1 (below_later hb hm))
  obtain ⟨a, cap, rfl⟩ := kSl_form h0
  change Hid (Calls Tryd.prog 56 #[.slice a t.length cap] w _) at HGT
  show Calls Tryd.prog 23 #[.slice a t.length cap, .string s] w _
  have hln := (sl_len h0).2
  have H := Lib.hid h0; have HM := Lib.hid hm; clear h0 hm
  unfold LookOf
  cases g0 : R_GoodTrie t with
  | false =>
    rw [R_Look_no (fun h => by rw [g0] at h; exact absurd h.1 (by decide))]
    rw [g0] at HGT
    clear g0
    go_enter Tryd.func23, Tryd.ntmps23
    go_wp2_with fail
    refine HGT.out.mono ?_
    rintro e w1 ⟨rfl, hb⟩
    have HB1 := Lib.hid hb; clear hb
    go_wp2_with fail
    go_ret3
    exact ⟨_, rfl, World.ownsRow_nil _ _ _ _, HB1.out⟩
  | true =>
  cases g1 : gTop s with
  | false =>
    rw [R_Look_no (fun h => by rw [g1] at h; exact absurd h.2 (by decide))]
    rw [g0] at HGT; rw [g1] at HTP
    clear g0 g1
    go_enter Tryd.func23, Tryd.ntmps23
    go_wp2_with fail
    refine HGT.out.mono ?_
    rintro e w1 ⟨rfl, hb⟩
    have HB1 := Lib.hid hb; clear hb
    go_wp2_with fail
    refine (HTP.out _ HB1.out).mono ?_
    rintro e w2 ⟨rfl, hb⟩
    have HB2 := Lib.hid (HB1.out.trans (hb.mono HB1.out.size)); clear hb
    go_wp2_with fail
    go_ret3
    exact ⟨_, rfl, World.ownsRow_nil _ _ _ _, HB2.out⟩
  | true =>
  rw [R_Look_yes ⟨g0, g1⟩]
  rw [g0] at HGT; rw [g1] at HTP
  obtain ⟨hl1, hl2, hroot, hr1, hw30⟩ := good_root g0
  have HGP := Lib.hid (gTop_gPat g1)
  obtain ⟨hp6, hpm⟩ := gTop_levels g1
  have hdb := down_bound hw30 hp6 0
  have HPM := Lib.hid hpm
  have HPZ : Hid (∀ x ∈ pieces 47 s, x.size ≤ maxLen) := Lib.hid fun x hx => by have := pieces_size 47 s x hx; unfold maxLen; omega
  have HNM : Hid ((nd t 0).1 ≠ more) := Lib.hid (by rw [hr1]; decide)
  clear g0 g1 hpm hr1
  generalize hD : downR t (pieces 47 s) 0 = D at *
  have HD := Lib.hid hD; clear hD
  have HLV := Lib.hid (fun wx (hb : Below w.heap.size w wx) => levels_at s wx m h1 (below_later hb HM.out) HGP.out)
  obtain ⟨tb, tf, _, _, rfl, _, _⟩ := who_row H.out (Nat.le_refl _) (show 0 < t.length by omega)
  go_enter Tryd.func23, Tryd.ntmps23
  go_wp2_with fail
  refine HGT.out.mono ?_
  rintro e w1 ⟨rfl, hb⟩
  have HB1 := Lib.hid hb; clear hb
  go_wp2_with fail
  refine (HTP.out _ HB1.out).mono ?_
  rintro e w2 ⟨rfl, hb⟩
  have HB2 := Lib.hid (HB1.out.trans (hb.mono HB1.out.size)); clear hb
  go_wp2_with fail
  obtain ⟨wb, hwb⟩ : ∃ z : World, z = w2.alloc (.cells #[.slice (some ⟨tb, tf, none⟩) t.length cap, .slice none 0 0, .int .i64 0] 74) := ⟨_, rfl⟩
  have HBB : Hid (Below w2.heap.size w2 wb) := Lib.hid (by rw [hwb]; exact (Below.refl _ _).alloc (Nat.le_refl _) _)
  have HHB : Hid (wb.heap[w2.heap.size]? = some (.cells #[.slice (some ⟨tb, tf, none⟩) t.length cap, .slice none 0 0, .int .i64 0] 74)) := Lib.hid (by rw [hwb]; exact heap_alloc_new w2 _)
  have hbz : w2.heap.size + 1 = wb.heap.size := by rw [hwb]; simp
  rw [← hwb]
  clear hwb
  have HBW := Lib.hid (HB2.out.trans (HBB.out.mono HB2.out.size))
  refine (HLV.out _ HBW.out).mono ?_
  rintro e w3 ⟨rfl, hrw3, hb3⟩
  have HB3 := Lib.hid (HBW.out.trans (hb3.mono HBW.out.size))
  have HST : Hid (St w3 w2.heap.size w3.heap.size (.slice (some ⟨tb, tf, none⟩) t.length cap) [] 0 w3) := Lib.hid ⟨.slice none 0 0, (hb3.block _ (by omega)).trans HHB.out, World.ownsRow_nil _ _ _ _, Below.refl _ _, fun _ _ _ => rfl, Nat.le_refl _⟩
  have HTR : Hid (kTrieNodeS.rd w2.heap.size w3 [.slice (some ⟨tb, tf, none⟩) t.length cap] t) := Lib.hid (kTrieNodeS_ok.rbelow (kTrieNodeS_ok.later H.out HB2.out) (HBB.out.trans (hb3.mono (by omega))))
  have HRX : Hid (Rx w3 w2.heap.size w3.heap.size (some ⟨wb.heap.size, 0, none⟩) (strs (pieces 47 s))) := Lib.hid (by
    rcases hrw3 with h | ⟨b, off, ha, hb, hc⟩
    · exact .inl h
    · simp only [Option.some.injEq, Addr.mk.injEq, and_true] at ha
      obtain ⟨rfl, rfl⟩ := ha
      exact .inr ⟨_, _, rfl, hb, by omega, hc⟩)
  have hz3 := hb3.size
  have hpl63 : (pieces 47 s).length ≤ 9223372036854775807 := by omega
  have hpw := pow6 hp6
  have HDN := Lib.hid (impl_down t tb tf cap w3 w2.heap.size w3.heap.size HTR.out (by omega) hl2 hw30 hroot (pieces 47 s) 0 (pieces 47 s).length (some ⟨wb.heap.size, 0, none⟩) (pieces 47 s).length [] 0 w3 HST HRX (Lib.hid rfl) (Nat.le_refl _) hpl63 hp6 (Lib.hid fun x hx => ⟨HPZ.out x hx, HPM.out x hx⟩) (by omega) HNM.out List.Pairwise.nil (by simp; omega) (by omega))
  rw [Nat.zero_add] at HDN
  clear hrw3 hb3 hpw HST HTR HRX
  rw [HD.out] at HDN
  go_wp2_with fail
  refine HDN.out.mono ?_
  rintro e w4 ⟨rfl, hs4⟩
  obtain ⟨v4, k0, k1, k2, _, _, ho4⟩ := st_cells hs4
  obtain ⟨_, _, _, hb4, _, _⟩ := hs4
  have HO4 := Lib.hid (own_mono ho4 HB3.out.size); have HB4 := Lib.hid (HB3.out.trans (hb4.mono HB2.out.size)); clear ho4 hb4
  go_wp2_with fail
  refine wp_region_G [] (fun w' => w'.cell? ⟨w2.heap.size, 1, none⟩ = some v4 ∧ w'.cell? ⟨w2.heap.size, 2, none⟩ = some (.int .i64 (D.2 : Int))) (by kernel_rfl) ?_ (fun hHeld => ?_)
  · exact ⟨k1, k2⟩
  refine wpG_pure (i := 0) (oi := { dst := some 21, op := Go.Op.fieldAddr 74 (Go.Operand.tmp 7) 1, type := 0, pos := "l10_topic.go:219", after := #[], guard := none }) (v := ?vg1) rfl (by kernel_rfl) (fun _ _ _ h => h) (Or.inr hHeld) (Or.inl ⟨by rfl, ?yg1⟩) ?_
  case yg1 => (intro wS _; go_simp <;> with_reducible rfl)
  try simp only [Act.put, List.setIfInBounds_toArray, List.set_cons_zero, List.set_cons_succ]
  refine wpG_load (i := 1) (oi := { dst := some 22, op := Go.Op.load 36 (Go.Operand.tmp 21), type := 36, pos := "l10_topic.go:219", after := #[{ on := 0, ground := Go.Ground.data }], guard := none }) (v := ?vg2) [] rfl (by kernel_rfl) (fun _ _ _ h => h) hHeld (Or.inl ⟨by rfl, ?yg2⟩) ?_
  case yg2 => (intro wS hSw; (try dsimp only at hSw); go_simp <;> with_reducible rfl)
  try simp only [Act.put, List.setIfInBounds_toArray, List.set_cons_zero, List.set_cons_succ]
  refine wpG_pure (i := 2) (oi := { dst := some 23, op := Go.Op.fieldAddr 74 (Go.Operand.tmp 7) 2, type := 0, pos := "l10_topic.go:219", after := #[{ on := 4, ground := Go.Ground.gcOnly Go.Departure.lateStores }], guard := none }) (v := ?vg3) rfl (by kernel_rfl) (fun _ _ _ h => h) (Or.inr hHeld) (Or.inl ⟨by rfl, ?yg3⟩) ?_
  case yg3 => (intro wS _; go_simp <;> with_reducible rfl)
  try simp only [Act.put, List.setIfInBounds_toArray, List.set_cons_zero, List.set_cons_succ]
  refine wpG_load (i := 3) (oi := { dst := some 24, op := Go.Op.load 3 (Go.Operand.tmp 23), type := 3, pos := "l10_topic.go:219", after := #[{ on := 2, ground := Go.Ground.data }, { on := 4, ground := Go.Ground.gcOnly Go.Departure.lateStores }], guard := none }) (v := ?vg4) [] rfl (by kernel_rfl) (fun _ _ _ h => h) hHeld (Or.inl ⟨by rfl, ?yg4⟩) ?_
  case yg4 => (intro wS hSw; (try dsimp only at hSw); go_simp <;> with_reducible rfl)
  try simp only [Act.put, List.setIfInBounds_toArray, List.set_cons_zero, List.set_cons_succ]
  refine wpG_pure (i := 4) (oi := { dst := some 4, op := Go.Op.assign (Go.Operand.tmp 22), type := 36, pos := "l10_topic.go:219", after := #[{ on := 1, ground := Go.Ground.data }, { on := 0, ground := Go.Ground.phase }, { on := 1, ground := Go.Ground.phase }, { on := 2, ground := Go.Ground.textOnly Go.Departure.lateStores }, { on := 3, ground := Go.Ground.textOnly Go.Departure.lateStores }], guard := none }) (v := ?vg5) rfl (by kernel_rfl) (fun _ _ _ h => h) (Or.inr hHeld) (Or.inl ⟨by rfl, ?yg5⟩) ?_
  case yg5 => (intro wS _; go_simp <;> with_reducible rfl)
  try simp only [Act.put, List.setIfInBounds_toArray, List.set_cons_zero, List.set_cons_succ]
  refine wpG_pure (i := 5) (oi := { dst := some 5, op := Go.Op.assign (Go.Operand.tmp 24), type := 3, pos := "l10_topic.go:219", after := #[{ on := 3, ground := Go.Ground.data }, { on := 4, ground := Go.Ground.chain }, { on := 0, ground := Go.Ground.phase }, { on := 1, ground := Go.Ground.phase }, { on := 2, ground := Go.Ground.phase }, { on := 3, ground := Go.Ground.phase }, { on := 4, ground := Go.Ground.phase }], guard := none }) (v := ?vg6) rfl (by kernel_rfl) (fun _ _ _ h => h) (Or.inr hHeld) (Or.inl ⟨by rfl, ?yg6⟩) ?_
  case yg6 => (intro wS _; go_simp <;> with_reducible rfl)
  try simp only [Act.put, List.setIfInBounds_toArray, List.set_cons_zero, List.set_cons_succ]
  refine wpG_pure (i := 6) (oi := { dst := some 6, op := Go.Op.assign (Go.Operand.const (Go.Value.bool true)), type := 4, pos := "l10_topic.go:219", after := #[{ on := 5, ground := Go.Ground.chain }, { on := 0, ground := Go.Ground.phase }, { on := 1, ground := Go.Ground.phase }, { on := 2, ground := Go.Ground.phase }, { on := 3, ground := Go.Ground.phase }, { on := 4, ground := Go.Ground.phase }, { on := 5, ground := Go.Ground.phase }], guard := none }) (v := ?vg7) rfl (by kernel_rfl) (fun _ _ _ h => h) (Or.inr hHeld) (Or.inl ⟨by rfl, ?yg7⟩) ?_
  case yg7 => (intro wS _; go_simp <;> with_reducible rfl)
  try simp only [Act.put, List.setIfInBounds_toArray, List.set_cons_zero, List.set_cons_succ]
  refine wpG_done (by kernel_rfl) ?_
  skip
  go_wp2_with fail
  go_ret3
  exact ⟨_, rfl, HO4.out, HB4.out.drew⟩
theorem look_wf {w : World} {B : Nat} {cs : List Value} {t : List Nd} {s : ByteArray} (h : kTrieNodeS.rd B w cs t) : ∀ n ∈ (R_LookUp t s).1, (Lit.int .i64 n).wf = true := by
  by_cases hg : R_GoodTrie t = true ∧ gTop s = true
  · rw [R_Look_yes hg]
    refine puts_wf (by simp) ?_ List.Pairwise.nil
    intro n hn
    obtain ⟨k, hk⟩ := down_mem _ _ n hn
    obtain ⟨a, cap, rfl⟩ := kSl_form h
    by_cases hkl : k < t.length
    · obtain ⟨x, b, off, aw, cw, hx, _, _, _, _, _, _, _, hr⟩ := nd_cells h hkl
      rw [nd_at hx] at hk
      exact (ints_rd hr).2 n hk
    · have : nd t k = (ByteArray.empty, -1, []) := by unfold nd; simp [List.getD, List.getElem?_eq_none (show t.length ≤ k by omega)]
      rw [this] at hk; cases hk
  · rw [R_Look_no hg]; simp
theorem look_made {R : List Int × Int × Bool} {w w' : World} {e : Ending} (hw : ∀ p ∈ R.1, (Lit.int .i64 p).wf = true) (h : LookOf R w e w') : Made kIntS (fun cs => .tuple #[one cs, .int .i64 R.2.1, .bool R.2.2]) R.1 w e w' := by
  obtain ⟨v, rfl, ho, hb⟩ := h
  exact ⟨[v], v.ownBlock.toList, rfl, ints_own ho hw, by cases v.ownBlock <;> simp, fun b hm => (ho.lt b (by simpa using hm)).1, hb⟩
theorem R_LookUp_ok (t : List Nd) (s : ByteArray) (_h : kTrieNodeS.wt t ≤ 1048576) : kIntS.cnt (R_LookUp t s).1 ≤ 16777215 := by
  rw [ints_cnt]
  by_cases hg : R_GoodTrie t = true ∧ gTop s = true
  · rw [R_Look_yes hg]
    have h1 := puts_len [] (downR t (pieces 47 s) 0).1
    have h2 := down_bound (good_root hg.1).2.2.2.2 (gTop_levels hg.2).1 0
    simp only [List.length_nil] at h1
    simp only
    omega
  · rw [R_Look_no hg]; simp
theorem spec_LookUp (w : World) (cs0 : List Value) (a0 : List Nd) (a1 : ByteArray) (h0 : kTrieNodeS.rd w.heap.size w cs0 a0) (h1 : a1.size ≤ 1048576) (ht : kTrieNodeS.wt a0 ≤ 1048576) :
    Calls Tryd.prog 21 #[one cs0, .string a1] w (Made kIntS (fun cs => .tuple #[one cs, .int .i64 (R_LookUp a0 a1).2.1, .bool (R_LookUp a0 a1).2.2]) (R_LookUp a0 a1).1 w) :=
  (spec_look w cs0 a0 a1 h0 h1 ht).mono fun _ _ h => look_made (look_wf h0) h
theorem impl_LookUp (w : World) (cs0 : List Value) (a0 : List Nd) (a1 : ByteArray) (h0 : kTrieNodeS.rd w.heap.size w cs0 a0) (h1 : a1.size ≤ 1048576) (ht : kTrieNodeS.wt a0 ≤ 1048576) (m : Int) (hm : w.cell? ⟨0, 0, none⟩ = some (.int .i64 m)) :
    Calls Tryd.prog 23 #[one cs0, .string a1] w (Made kIntS (fun cs => .tuple #[one cs, .int .i64 (R_LookUp a0 a1).2.1, .bool (R_LookUp a0 a1).2.2]) (R_LookUp a0 a1).1 w) :=
  (impl_look m w cs0 a0 a1 h0 h1 ht hm).mono fun _ _ h => look_made (look_wf h0) h
end Go.Proofs.YteknmjebokimjaaDoor
