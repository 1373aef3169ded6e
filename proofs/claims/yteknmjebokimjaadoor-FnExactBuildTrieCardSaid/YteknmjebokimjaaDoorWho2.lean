/- The contracts of WhoGets, the program's and the reference's (second half). -/
import Derived.Test.YteknmjebokimjaaDoorWho
namespace Go.Proofs.YteknmjebokimjaaDoor
set_option linter.unusedVariables false
open Go.ChangeShapes Go.WideShapes Go.ChangeAt Go.RowKit
set_option maxRecDepth 100000

def WithOf (base : Nat) (xs : List Int) (n : Int) (w : World) (e : Ending) (w' : World) : Prop :=
  ∃ g cap, e = .returned (.slice (some ⟨g, 0, none⟩) (putR xs n).length cap) ∧ w'.ownsRow base 3 1 (.slice (some ⟨g, 0, none⟩) (putR xs n).length cap) (putR xs n).length (ints (putR xs n)) ∧ Below base w w'
set_option maxHeartbeats 1000000 in
theorem impl_with (base g cap : Nat) (xs : List Int) (n : Int) (w : World) (ho : w.ownsRow base 3 1 (.slice (some ⟨g, 0, none⟩) xs.length cap) xs.length (ints xs)) (hb : base ≤ w.heap.size) (hl : xs.length ≤ 1048576) (hs : xs.Pairwise (· < ·)) :
    Calls Tryd.prog 46 #[.slice (some ⟨g, 0, none⟩) xs.length cap, .int .i64 n] w (WithOf base xs n w) := by
  have HS := Lib.hid (Tryd.slices_BinarySearch_int g 0 xs.length cap xs n w (Nat.le_refl _) (by omega) (fun j hj => by rw [Nat.zero_add, ho.cellAt j (by omega), ints_at _ _ hj]) (by rw [List.take_length]; exact hs.imp (fun h => by omega)))
  rw [List.take_length, count_put xs n hs] at HS
  have hk := putK_le xs n
  have HO := Lib.hid ho
  unfold WithOf
  by_cases hin : n ∈ xs
  · have hc : xs.contains n = true := by simpa using hin
    rw [hc] at HS
    rw [(put_in hs hin).2]
    generalize putK xs n = k at *
    clear hc hin ho hs
    go_enter Tryd.func46, Tryd.ntmps46
    go_wp2_with fail
    refine HS.out.mono ?_
    rintro e w1 ⟨rfl, q, rfl⟩
    go_wp2_with fail
    go_ret
    exact ⟨g, cap, rfl, own_drewN HO.out _, below_drewN (Below.refl _ _) _⟩
  · have hc : xs.contains n = false := by simpa using hin
    rw [hc] at HS
    rw [put_new hin]
    have HI := Lib.hid (fun (q : Nat) => impl_insert base g cap (putK xs n) xs n (w.drewN q) (own_drewN HO.out q) (by simpa using hb) hk hl)
    have hlen : (xs.take (putK xs n) ++ n :: xs.drop (putK xs n)).length = xs.length + 1 := by simp; omega
    rw [hlen]
    generalize putK xs n = k at *
    clear hc hin ho hs hlen
    go_enter Tryd.func46, Tryd.ntmps46
    go_wp2_with fail
    refine HS.out.mono ?_
    rintro e w1 ⟨rfl, q, rfl⟩
    go_wp2_with fail
    refine (HI.out q).mono ?_
    rintro e w2 ⟨v, rfl, ho2, hb2⟩
    have HO2 := Lib.hid ho2; have HB2 := Lib.hid hb2; clear ho2 hb2 HI HS
    obtain ⟨g2, cp2, rfl, _⟩ := HO2.out.form (by omega)
    go_wp2_with fail
    go_ret
    exact ⟨g2, cp2, rfl, HO2.out, (below_drewN (Below.refl _ _) q).trans HB2.out⟩

def WhoOf (R : List Int × Bool) (w : World) (e : Ending) (w' : World) : Prop :=
  ∃ v, e = .returned (.tuple #[v, .bool R.2]) ∧ w'.ownsRow w.heap.size 3 1 v R.1.length (ints R.1) ∧ Below w.heap.size w w'

set_option maxHeartbeats 4000000 in
theorem spec_who (w : World) (cs0 : List Value) (a0 : List (ByteArray × Int)) (a1 : ByteArray) (h0 : kSubS.rd w.heap.size w cs0 a0) (h1 : a1.size ≤ 1048576) (ht : kSubS.wt a0 ≤ 1048576) :
    Calls Tryd.prog 37 #[one cs0, .string a1] w (WhoOf (R_WhoGets a0 a1) w) := by
  have HSB := Lib.hid (spec_subs w cs0 a0 h0 ht)
  have HTP := Lib.hid (fun wx (_ : Below w.heap.size w wx) => spec_goodTopic a1 wx h1)
  obtain ⟨ea, ecap, rfl⟩ := kSl_form h0
  have hln := (sl_len h0).2
  have H0 := Lib.hid h0; have HT := Lib.hid ht
  show Calls Tryd.prog 37 #[.slice ea a0.length ecap, .string a1] w _
  unfold WhoOf
  clear h0 ht
  cases g0 : subsB a0 with
  | false =>
    rw [R_Who_no (fun h => by rw [g0] at h; exact absurd h.1 (by decide))]
    rw [g0] at HSB
    clear g0
    go_enter Tryd.func37, Tryd.ntmps37
    go_wp2_with fail
    refine HSB.out.mono ?_
    rintro e w1 ⟨rfl, hb⟩
    have HB1 := Lib.hid hb; clear hb
    go_wp2_with fail
    go_ret2
    exact ⟨_, rfl, World.ownsRow_nil _ _ _ _, HB1.out⟩
  | true =>
  cases g1 : gTop a1 with
  | false =>
    rw [R_Who_no (fun h => by rw [g1] at h; exact absurd h.2 (by decide))]
    rw [g0] at HSB; rw [g1] at HTP
    clear g0 g1
    go_enter Tryd.func37, Tryd.ntmps37
    go_wp2_with fail
    refine HSB.out.mono ?_
    rintro e w1 ⟨rfl, hb⟩
    have HB1 := Lib.hid hb; clear hb
    go_wp2_with fail
    refine (HTP.out _ HB1.out).mono ?_
    rintro e w2 ⟨rfl, hb⟩
    have HB2 := Lib.hid (HB1.out.trans (hb.mono HB1.out.size)); clear hb
    go_wp2_with fail
    go_ret2
    exact ⟨_, rfl, World.ownsRow_nil _ _ _ _, HB2.out⟩
  | true =>
  rw [R_Who_yes ⟨g0, g1⟩]
  rw [g0] at HSB; rw [g1] at HTP
  have HAT := Lib.hid (fun x (hx : x ∈ a0) => subsB_at g0 hx)
  have h30 := subsB_len g0
  have HGT := Lib.hid g1
  have HGF := Lib.hid (fun j => get_fold a1 (a0.take j) [] List.Pairwise.nil)
  clear g0 g1
  go_enter Tryd.func37, Tryd.ntmps37
  go_wp2_with fail
  refine HSB.out.mono ?_
  rintro e w1 ⟨rfl, hb⟩
  have HB1 := Lib.hid hb; clear hb
  go_wp2_with fail
  refine (HTP.out _ HB1.out).mono ?_
  rintro e w2 ⟨rfl, hb⟩
  have HB2 := Lib.hid (HB1.out.trans (hb.mono HB1.out.size)); clear hb
  go_wp2_with fail
  go_loopw [6, 19] (fun ov jv wr => ∃ (j : Nat) (v : Value), j ≤ a0.length ∧ jv = .int .i64 (j : Int) ∧ ov = v ∧ Hid (wr.ownsRow w.heap.size 3 1 v ((a0.take j).foldl (getR a1) []).length (ints ((a0.take j).foldl (getR a1) []))) ∧ Hid (Below w2.heap.size w2 wr)) (fun _ jv _ => a0.length - (intOf jv).toNat)
  case atStart => exact ⟨0, _, by omega, rfl, rfl, World.ownsRow_nil _ _ _ _, Below.refl _ _⟩
  case round =>
    obtain ⟨j, v, hjl, rfl, rfl, HO, HB⟩ := hrel
    by_cases hlt : j < a0.length
    case neg =>
      obtain rfl : j = a0.length := by omega
      rw [List.take_length] at HO
      go_wp2_with fail
      go_ret2
      exact ⟨_, rfl, HO.out, HB2.out.trans (HB.out.mono HB2.out.size)⟩
    obtain ⟨x, hx⟩ : ∃ x, a0[j]? = some x := ⟨a0[j], List.getElem?_eq_getElem hlt⟩
    obtain ⟨v, b, off, hr, rfl, hbl, hcell⟩ := sl_at kSub_ok (n := 2) rfl (by decide) H0.out hx
    obtain ⟨rfl, _, hwf⟩ := Sub_rd hr
    have HBW := Lib.hid (HB2.out.trans (HB.out.mono HB2.out.size))
    have c0 : wr.cell? ⟨b, off + j * 2, none⟩ = some (.string x.1) := (HBW.out.cell (p := ⟨b, off + j * 2, none⟩) hbl).trans (by have := hcell 0 _ rfl; simpa [Nat.add_assoc] using this)
    have c1 : wr.cell? ⟨b, off + j * 2 + 1, none⟩ = some (.int .i64 x.2) := (HBW.out.cell (p := ⟨b, off + j * 2 + 1, none⟩) hbl).trans (by have := hcell 1 _ rfl; simpa [Nat.add_assoc] using this)
    have hsz := sub_size HT.out (List.mem_of_getElem? hx)
    have hat := HAT.out x (List.mem_of_getElem? hx)
    have HY := Lib.hid (fold_take_get a1 a0 j x hx)
    have HF := Lib.hid (HGF.out j)
    have hlen := (HGF.out j).2
    have hlt2 : (a0.take j).length ≤ 30 := by rw [List.length_take]; omega
    have hpl1 := pieces_le 47 x.1
    have hpl2 := pieces_le 47 a1
    have HB0 := Lib.hid (box_start wr (.cells #[.string x.1, .int .i64 x.2] 55))
    have HS1 := Lib.hid (fun wx => spec_split x.1 wx hsz)
    have HS2 := Lib.hid (fun wx => spec_split a1 wx h1)
    unfold SplitOf at HS1 HS2
    have hs1 : w.heap.size ≤ wr.heap.size := HBW.out.size
    have HPT := Lib.hid (fun (wx : World) (hx : Below wr.heap.size wr wx) => spec_put w.heap.size _ ((a0.take j).foldl (getR a1) []) x.2 wx (own_later HO.out hx) (Nat.le_trans hs1 hx.size) (by simp at hlen; omega))
    unfold PutOf at HPT
    clear hcell hr hx hat hlen
    generalize (a0.take j).foldl (getR a1) [] = p at *
    cases hf : fitsR (pieces 47 x.1) (pieces 47 a1) with
    | false =>
      have HY2 : Hid ((a0.take (j + 1)).foldl (getR a1) [] = p) := Lib.hid (by rw [HY.out, hf]; rfl)
      have HFT := Lib.hid (fun (a b : Option Addr) (ca cb : Nat) (wx : World) (ha : Rw wx a (strs (pieces 47 x.1))) (hb : Rw wx b (strs (pieces 47 a1))) => hf ▸ spec_fits (pieces 47 x.1) (pieces 47 a1) a b ca cb wx ha hb (by omega) (by omega))
      clear hf
      go_wp2_with fail
      refine (HS1.out _).mono ?_
      rintro e w3 ⟨a3, cap3, rfl, hr3, hb3⟩
      have HB3 := Lib.hid (box_step HB0.out hb3); have HR3 := Lib.hid hr3; clear hb3 hr3
      go_wp2_with fail
      refine (HS2.out _).mono ?_
      rintro e w4 ⟨a4, cap4, rfl, hr4, hb4⟩
      have HR4 := Lib.hid hr4; have HR3' := Lib.hid (HR3.out.below hb4); have HB4 := Lib.hid (box_step HB3.out hb4); clear hb4 hr4
      go_wp2_with fail
      refine (HFT.out _ _ _ _ _ HR3'.out HR4.out).mono ?_
      rintro e w5 ⟨rfl, rfl⟩
      go_wp2_with fail
      go_roundw
      case rel => exact ⟨j + 1, _, by omega, by go_num, rfl, by rw [HY2.out]; exact Lib.hid (own_later HO.out (box_below HB4.out)), HB.out.trans ((box_below HB4.out).mono HB.out.size)⟩
      case measure => simp [intOf]; omega
    | true =>
      have HY2 : Hid ((a0.take (j + 1)).foldl (getR a1) [] = putR p x.2) := Lib.hid (by rw [HY.out, hf]; rfl)
      have HFT := Lib.hid (fun (a b : Option Addr) (ca cb : Nat) (wx : World) (ha : Rw wx a (strs (pieces 47 x.1))) (hb : Rw wx b (strs (pieces 47 a1))) => hf ▸ spec_fits (pieces 47 x.1) (pieces 47 a1) a b ca cb wx ha hb (by omega) (by omega))
      clear hf
      go_wp2_with fail
      refine (HS1.out _).mono ?_
      rintro e w3 ⟨a3, cap3, rfl, hr3, hb3⟩
      have HB3 := Lib.hid (box_step HB0.out hb3); have HR3 := Lib.hid hr3; clear hb3 hr3
      go_wp2_with fail
      refine (HS2.out _).mono ?_
      rintro e w4 ⟨a4, cap4, rfl, hr4, hb4⟩
      have HR4 := Lib.hid hr4; have HR3' := Lib.hid (HR3.out.below hb4); have HB4 := Lib.hid (box_step HB3.out hb4); clear hb4 hr4
      go_wp2_with fail
      refine (HFT.out _ _ _ _ _ HR3'.out HR4.out).mono ?_
      rintro e w5 ⟨rfl, rfl⟩
      have k1 : w4.cell? ⟨wr.heap.size, 1, none⟩ = some (.int .i64 x.2) := box_cell HB4.out 1
      go_wp2_with fail
      refine (HPT.out _ (box_below HB4.out)).mono ?_
      rintro e w6 ⟨v6, rfl, ho6, hb6⟩
      have HO6 := Lib.hid ho6; have HB6 := Lib.hid (box_step HB4.out hb6); clear ho6 hb6
      go_wp2_with fail
      go_roundw
      case rel => exact ⟨j + 1, _, by omega, by go_num, rfl, by rw [HY2.out]; exact HO6, HB.out.trans ((box_below HB6.out).mono HB.out.size)⟩
      case measure => simp [intOf]; omega

set_option maxHeartbeats 4000000 in
theorem impl_who (m : Int) (w : World) (cs0 : List Value) (a0 : List (ByteArray × Int)) (a1 : ByteArray) (h0 : kSubS.rd w.heap.size w cs0 a0) (h1 : a1.size ≤ 1048576) (ht : kSubS.wt a0 ≤ 1048576) (hm : w.cell? ⟨0, 0, none⟩ = some (.int .i64 m)) :
    Calls Tryd.prog 38 #[one cs0, .string a1] w (WhoOf (R_WhoGets a0 a1) w) := by
  have HSB := Lib.hid (impl_subs m w cs0 a0 h0 ht hm)
  have HTP := Lib.hid (fun wx (hb : Below w.heap.size w wx) => impl_goodTopic a1 wx m h1 (below_later hb hm))
  obtain ⟨ea, ecap, rfl⟩ := kSl_form h0
  have hln := (sl_len h0).2
  have H0 := Lib.hid h0; have HT := Lib.hid ht; have HM := Lib.hid hm
  show Calls Tryd.prog 38 #[.slice ea a0.length ecap, .string a1] w _
  unfold WhoOf
  clear h0 ht hm
  cases g0 : subsB a0 with
  | false =>
    rw [R_Who_no (fun h => by rw [g0] at h; exact absurd h.1 (by decide))]
    rw [g0] at HSB
    clear g0
    go_enter Tryd.func38, Tryd.ntmps38
    go_wp2_with fail
    refine HSB.out.mono ?_
    rintro e w1 ⟨rfl, hb⟩
    have HB1 := Lib.hid hb; clear hb
    go_wp2_with fail
    go_ret2
    exact ⟨_, rfl, World.ownsRow_nil _ _ _ _, HB1.out⟩
  | true =>
  cases g1 : gTop a1 with
  | false =>
    rw [R_Who_no (fun h => by rw [g1] at h; exact absurd h.2 (by decide))]
    rw [g0] at HSB; rw [g1] at HTP
    clear g0 g1
    go_enter Tryd.func38, Tryd.ntmps38
    go_wp2_with fail
    refine HSB.out.mono ?_
    rintro e w1 ⟨rfl, hb⟩
    have HB1 := Lib.hid hb; clear hb
    go_wp2_with fail
    refine (HTP.out _ HB1.out).mono ?_
    rintro e w2 ⟨rfl, hb⟩
    have HB2 := Lib.hid (HB1.out.trans (hb.mono HB1.out.size)); clear hb
    go_wp2_with fail
    go_ret2
    exact ⟨_, rfl, World.ownsRow_nil _ _ _ _, HB2.out⟩
  | true =>
  rw [R_Who_yes ⟨g0, g1⟩]
  rw [g0] at HSB; rw [g1] at HTP
  have HAT := Lib.hid (fun x (hx : x ∈ a0) => subsB_at g0 hx)
  have h30 := subsB_len g0
  have HGT := Lib.hid g1
  have HGF := Lib.hid (fun j => get_fold a1 (a0.take j) [] List.Pairwise.nil)
  clear g0 g1
  have hgp := gTop_gPat HGT.out
  have htl : (pieces 47 a1).all lvl = true := by have := HGT.out; unfold gTop at this; rw [Bool.and_eq_true] at this; exact this.2
  have HTL := Lib.hid htl
  have HLT := Lib.hid (fun wx (hb : Below w.heap.size w wx) => levels_yes a1 wx m h1 (below_later hb HM.out) hgp)
  unfold LevOf at HLT
  clear hgp htl
  go_enter Tryd.func38, Tryd.ntmps38
  go_wp2_with fail
  refine HSB.out.mono ?_
  rintro e w1 ⟨rfl, hb⟩
  have HB1 := Lib.hid hb; clear hb
  go_wp2_with fail
  refine (HTP.out _ HB1.out).mono ?_
  rintro e w2 ⟨rfl, hb⟩
  have HB2 := Lib.hid (HB1.out.trans (hb.mono HB1.out.size)); clear hb
  have hsw := HB2.out.size
  go_wp2_with fail
  go_loopw [6, 20] (fun ov jv wr => ∃ (j g cp : Nat), j ≤ a0.length ∧ jv = .int .i64 (j : Int) ∧ ov = .slice (some ⟨g, 0, none⟩) ((a0.take j).foldl (getR a1) []).length cp ∧ Hid (wr.ownsRow w2.heap.size 3 1 (.slice (some ⟨g, 0, none⟩) ((a0.take j).foldl (getR a1) []).length cp) ((a0.take j).foldl (getR a1) []).length (ints ((a0.take j).foldl (getR a1) []))) ∧ Hid (Below w2.heap.size w2 wr)) (fun _ jv _ => a0.length - (intOf jv).toNat)
  case atStart => exact ⟨0, _, _, by omega, rfl, rfl, World.ownsRow_made _ #[] 0 (Nat.le_refl _) (by unfold maxLen; omega) rfl, (Below.refl _ _).alloc (Nat.le_refl _) _⟩
  case round =>
    obtain ⟨j, g, cp, hjl, rfl, rfl, HO, HB⟩ := hrel
    by_cases hlt : j < a0.length
    case neg =>
      obtain rfl : j = a0.length := by omega
      rw [List.take_length] at HO ⊢
      go_wp2_with fail
      go_ret2
      exact ⟨_, rfl, own_mono HO.out hsw, HB2.out.trans (HB.out.mono HB2.out.size)⟩
    obtain ⟨x, hx⟩ : ∃ x, a0[j]? = some x := ⟨a0[j], List.getElem?_eq_getElem hlt⟩
    obtain ⟨v, b, off, hr, rfl, hbl, hcell⟩ := sl_at kSub_ok (n := 2) rfl (by decide) H0.out hx
    obtain ⟨rfl, _, hwf⟩ := Sub_rd hr
    have HBW := Lib.hid (HB2.out.trans (HB.out.mono HB2.out.size))
    have c0 : wr.cell? ⟨b, off + j * 2, none⟩ = some (.string x.1) := (HBW.out.cell (p := ⟨b, off + j * 2, none⟩) hbl).trans (by have := hcell 0 _ rfl; simpa [Nat.add_assoc] using this)
    have c1 : wr.cell? ⟨b, off + j * 2 + 1, none⟩ = some (.int .i64 x.2) := (HBW.out.cell (p := ⟨b, off + j * 2 + 1, none⟩) hbl).trans (by have := hcell 1 _ rfl; simpa [Nat.add_assoc] using this)
    have hsz := sub_size HT.out (List.mem_of_getElem? hx)
    have hat := HAT.out x (List.mem_of_getElem? hx)
    have HY := Lib.hid (fold_take_get a1 a0 j x hx)
    have HF := Lib.hid (HGF.out j)
    have hlen := (HGF.out j).2
    have hlt2 : (a0.take j).length ≤ 30 := by rw [List.length_take]; omega
    have hpl1 := pieces_le 47 x.1
    have hpl2 := pieces_le 47 a1
    have HB0 := Lib.hid (box_start wr (.cells #[.string x.1, .int .i64 x.2] 55))
    have HL1 := Lib.hid (fun wx (hb : Below w.heap.size w wx) => levels_yes x.1 wx m hsz (below_later hb HM.out) hat.1)
    unfold LevOf at HL1
    have hs1 : w2.heap.size ≤ wr.heap.size := HB.out.size
    have HPT := Lib.hid (fun (wx : World) (hx : Below wr.heap.size wr wx) => impl_with w2.heap.size g cp ((a0.take j).foldl (getR a1) []) x.2 wx (own_later HO.out hx) (Nat.le_trans hs1 hx.size) (by simp at hlen; omega) (HF.out).1)
    unfold WithOf at HPT
    have hln2 : ((a0.take j).foldl (getR a1) []).length ≤ 30 := by simp at hlen; omega
    clear hcell hr hx hat hlen HF
    generalize (a0.take j).foldl (getR a1) [] = p at *
    have HTF := Lib.hid (takes_fits (p := pieces 47 x.1) HTL.out)
    cases hf : fitsR (pieces 47 x.1) (pieces 47 a1) with
    | false =>
      have HY2 : Hid ((a0.take (j + 1)).foldl (getR a1) [] = p) := Lib.hid (by rw [HY.out, hf]; rfl)
      have HFT := Lib.hid (fun (a b : Option Addr) (ca cb : Nat) (wx : World) (ha : Rw wx a (strs (pieces 47 x.1))) (hb : Rw wx b (strs (pieces 47 a1))) => (HTF.out.trans hf) ▸ impl_takes (pieces 47 x.1) (pieces 47 a1) a b ca cb wx ha hb (by omega) (by omega))
      clear hf
      go_wp2_with fail
      refine (HL1.out _ (HBW.out.trans ((box_below HB0.out).mono HBW.out.size))).mono ?_
      rintro e w3 ⟨a3, cap3, rfl, hr3, hb3⟩
      have HB3 := Lib.hid (box_step HB0.out hb3); have HR3 := Lib.hid hr3; clear hb3 hr3
      go_wp2_with fail
      refine (HLT.out _ (HBW.out.trans ((box_below HB3.out).mono HBW.out.size))).mono ?_
      rintro e w4 ⟨a4, cap4, rfl, hr4, hb4⟩
      have HR4 := Lib.hid hr4; have HR3' := Lib.hid (HR3.out.below hb4); have HB4 := Lib.hid (box_step HB3.out hb4); clear hb4 hr4
      go_wp2_with fail
      refine (HFT.out _ _ _ _ _ HR3'.out HR4.out).mono ?_
      rintro e w5 ⟨rfl, rfl⟩
      go_wp2_with fail
      go_roundw
      case rel => exact ⟨j + 1, g, cp, by omega, by go_num, by rw [HY2.out], by rw [HY2.out]; exact Lib.hid (own_later HO.out (box_below HB4.out)), HB.out.trans ((box_below HB4.out).mono HB.out.size)⟩
      case measure => simp [intOf]; omega
    | true =>
      have HY2 : Hid ((a0.take (j + 1)).foldl (getR a1) [] = putR p x.2) := Lib.hid (by rw [HY.out, hf]; rfl)
      have HFT := Lib.hid (fun (a b : Option Addr) (ca cb : Nat) (wx : World) (ha : Rw wx a (strs (pieces 47 x.1))) (hb : Rw wx b (strs (pieces 47 a1))) => (HTF.out.trans hf) ▸ impl_takes (pieces 47 x.1) (pieces 47 a1) a b ca cb wx ha hb (by omega) (by omega))
      clear hf
      go_wp2_with fail
      refine (HL1.out _ (HBW.out.trans ((box_below HB0.out).mono HBW.out.size))).mono ?_
      rintro e w3 ⟨a3, cap3, rfl, hr3, hb3⟩
      have HB3 := Lib.hid (box_step HB0.out hb3); have HR3 := Lib.hid hr3; clear hb3 hr3
      go_wp2_with fail
      refine (HLT.out _ (HBW.out.trans ((box_below HB3.out).mono HBW.out.size))).mono ?_
      rintro e w4 ⟨a4, cap4, rfl, hr4, hb4⟩
      have HR4 := Lib.hid hr4; have HR3' := Lib.hid (HR3.out.below hb4); have HB4 := Lib.hid (box_step HB3.out hb4); clear hb4 hr4
      go_wp2_with fail
      refine (HFT.out _ _ _ _ _ HR3'.out HR4.out).mono ?_
      rintro e w5 ⟨rfl, rfl⟩
      have k1 : w4.cell? ⟨wr.heap.size, 1, none⟩ = some (.int .i64 x.2) := box_cell HB4.out 1
      go_wp2_with fail
      refine (HPT.out _ (box_below HB4.out)).mono ?_
      rintro e w6 ⟨g6, cp6, rfl, ho6, hb6⟩
      have HO6 := Lib.hid ho6; have HB6 := Lib.hid ((HB.out.trans ((box_below HB4.out).mono HB.out.size)).trans hb6); clear ho6 hb6
      go_wp2_with fail
      go_roundw
      case rel => exact ⟨j + 1, g6, cp6, by omega, by go_num, by rw [HY2.out], by rw [HY2.out]; exact HO6, HB6⟩
      case measure => simp [intOf]; omega

theorem who_wf {l : List (ByteArray × Int)} {t : ByteArray} : ∀ n ∈ (R_WhoGets l t).1, (Lit.int .i64 n).wf = true := by
  by_cases h : subsB l = true ∧ gTop t = true
  · rw [R_Who_yes h]
    exact get_wf t l [] (fun x hx => by have := subsB_at h.1 hx; exact WalkArith.wf_i64 (by omega)) (by simp)
  · rw [R_Who_no h]; simp
theorem who_made {R : List Int × Bool} {w w' : World} {e : Ending} (hw : ∀ p ∈ R.1, (Lit.int .i64 p).wf = true) (h : WhoOf R w e w') : Made kIntS (fun cs => .tuple #[one cs, .bool R.2]) R.1 w e w' := by
  obtain ⟨v, rfl, ho, hb⟩ := h
  exact ⟨[v], v.ownBlock.toList, rfl, ints_own ho hw, by cases v.ownBlock <;> simp, fun b hm => (ho.lt b (by simpa using hm)).1, hb⟩
theorem ints_cnt (xs : List Int) : kIntS.cnt xs = xs.length := by
  show sumL kInt.cnt xs = _
  induction xs with
  | nil => rfl
  | cons x r ih => rw [sumL, ih, List.length_cons]; show 1 + _ = _; omega
theorem R_WhoGets_ok (l : List (ByteArray × Int)) (t : ByteArray) (_h : kSubS.wt l ≤ 1048576) : kIntS.cnt (R_WhoGets l t).1 ≤ 16777215 := by
  rw [ints_cnt]
  by_cases h : subsB l = true ∧ gTop t = true
  · rw [R_Who_yes h]
    have := (get_fold t l [] List.Pairwise.nil).2
    have := subsB_len h.1
    simp at *; omega
  · rw [R_Who_no h]; simp
theorem spec_WhoGets (w : World) (cs0 : List Value) (a0 : List (ByteArray × Int)) (a1 : ByteArray) (h0 : kSubS.rd w.heap.size w cs0 a0) (h1 : a1.size ≤ 1048576) (ht : kSubS.wt a0 ≤ 1048576) :
    Calls Tryd.prog 37 #[one cs0, .string a1] w (Made kIntS (fun cs => .tuple #[one cs, .bool (R_WhoGets a0 a1).2]) (R_WhoGets a0 a1).1 w) :=
  (spec_who w cs0 a0 a1 h0 h1 ht).mono fun _ _ h => who_made who_wf h
theorem impl_WhoGets (w : World) (cs0 : List Value) (a0 : List (ByteArray × Int)) (a1 : ByteArray) (h0 : kSubS.rd w.heap.size w cs0 a0) (h1 : a1.size ≤ 1048576) (ht : kSubS.wt a0 ≤ 1048576) (m : Int) (hm : w.cell? ⟨0, 0, none⟩ = some (.int .i64 m)) :
    Calls Tryd.prog 38 #[one cs0, .string a1] w (Made kIntS (fun cs => .tuple #[one cs, .bool (R_WhoGets a0 a1).2]) (R_WhoGets a0 a1).1 w) :=
  (impl_who m w cs0 a0 a1 h0 h1 ht hm).mono fun _ _ h => who_made who_wf h
end Go.Proofs.YteknmjebokimjaaDoor
