/- The contracts of FindAll, the program's and the reference's: one plain function. -/
import Derived.Test.YtfkcchbbbfeamaaBorders2
namespace Go.Proofs.Ytfkcchbbbfeamaa
set_option linter.unusedVariables false
open Go.ChangeShapes Go.WideShapes Go.ChangeAt Go.RowKit

/-! ### plain -/
def bk (p : ByteArray) (k : Nat) : Nat := (bordL p p.size).getD (k - 1) 0
theorem bk_le (p : ByteArray) (k : Nat) (h0 : 0 < k) (h : k ≤ p.size) : bk p k ≤ k - 1 :=
  bordL_le p p.size (k - 1) (by rw [bordL_length]; omega)
def fbN (p : ByteArray) (c : UInt8) : Nat → Nat × Nat → Nat × Nat
  | 0, q => q
  | f + 1, q => if 0 < q.1 ∧ atS p q.1 ≠ c then fbN p c f (bk p q.1, q.2 + 1) else q
def finN (p : ByteArray) (i : Nat) (c : UInt8) (o : List Int) (q : Nat × Nat) : List Int × Nat × Nat :=
  if (if atS p q.1 = c then q.1 + 1 else q.1) = p.size then
    (o ++ [(i : Int) + 1 - ((if atS p q.1 = c then q.1 + 1 else q.1 : Nat) : Int)], bk p (if atS p q.1 = c then q.1 + 1 else q.1), q.2)
  else (o, (if atS p q.1 = c then q.1 + 1 else q.1), q.2)
def findSt (s p : ByteArray) : Nat → List Int × Nat × Nat
  | 0 => ([], 0, 0)
  | i + 1 => finN p i (atS s i) (findSt s p i).1 (fbN p (atS s i) (findSt s p i).2.1 ((findSt s p i).2.1, (findSt s p i).2.2 + 1))
theorem fbN_bd (p : ByteArray) (c : UInt8) : ∀ (f : Nat) (q : Nat × Nat), q.1 < p.size → (fbN p c f q).1 < p.size ∧ (fbN p c f q).2 + (fbN p c f q).1 ≤ q.2 + q.1
  | 0, q, h => ⟨h, Nat.le_refl _⟩
  | f + 1, q, h => by
    unfold fbN
    by_cases hc : 0 < q.1 ∧ atS p q.1 ≠ c
    · rw [if_pos hc]
      have h1 := bk_le p q.1 hc.1 (by omega)
      have := fbN_bd p c f (bk p q.1, q.2 + 1) (by simp only; omega)
      simp only at this
      omega
    · rw [if_neg hc]; exact ⟨h, Nat.le_refl _⟩
theorem findSt_bd (s p : ByteArray) (hp : 1 ≤ p.size) : ∀ i, (findSt s p i).1.length ≤ i ∧ (findSt s p i).2.1 < p.size ∧ (findSt s p i).2.2 ≤ p.size * i
  | 0 => ⟨Nat.le_refl _, hp, Nat.le_refl _⟩
  | i + 1 => by
    obtain ⟨h1, h2, h3⟩ := findSt_bd s p hp i
    have hb := fbN_bd p (atS s i) (findSt s p i).2.1 ((findSt s p i).2.1, (findSt s p i).2.2 + 1) h2
    rw [findSt]
    generalize fbN p (atS s i) (findSt s p i).2.1 ((findSt s p i).2.1, (findSt s p i).2.2 + 1) = q at *
    simp only at hb
    have hm : p.size * (i + 1) = p.size * i + p.size := Nat.mul_succ _ _
    unfold finN
    generalize hk : (if atS p q.1 = atS s i then q.1 + 1 else q.1) = k1
    have hk1 : k1 ≤ q.1 + 1 := by rw [← hk]; split <;> omega
    by_cases he : k1 = p.size
    · rw [if_pos he]
      have := bk_le p k1 (by omega) (by omega)
      refine ⟨by simp; omega, by simp only; omega, by simp only; omega⟩
    · rw [if_neg he]
      refine ⟨by simp only; omega, by simp only; omega, by simp only; omega⟩
theorem findSt_looks (s p : ByteArray) (hp : 1 ≤ p.size) (hp2 : p.size ≤ 200) (i : Nat) : (findSt s p i).2.2 ≤ 200 * i :=
  Nat.le_trans (findSt_bd s p hp i).2.2 (Nat.mul_le_mul_right i hp2)

def FindR (s p : ByteArray) : List Int × Nat × Bool := if s.size ≤ 200 ∧ inB (p.size : Int) 1 200 = true then ((findSt s p s.size).1, (findSt s p s.size).2.2, true) else ([], 0, false)
theorem FindR_no (s p : ByteArray) (h : ¬ (s.size ≤ 200 ∧ inB (p.size : Int) 1 200 = true)) : FindR s p = ([], 0, false) := by unfold FindR; rw [if_neg h]
theorem FindR_yes (s p : ByteArray) (h : s.size ≤ 200 ∧ inB (p.size : Int) 1 200 = true) : FindR s p = ((findSt s p s.size).1, (findSt s p s.size).2.2, true) := by unfold FindR; rw [if_pos h]
theorem FindR_len (s p : ByteArray) : (FindR s p).1.length ≤ 1048576 := by
  by_cases h : s.size ≤ 200 ∧ inB (p.size : Int) 1 200 = true
  · rw [FindR_yes s p h]
    have := inB_of h.2
    have := (findSt_bd s p (by omega) s.size).1
    simp only; omega
  · rw [FindR_no s p h]; simp
def MadeFind (R : List Int × Nat × Bool) (w : World) (e : Ending) (w' : World) : Prop :=
  ∃ v, e = .returned (.tuple #[v, .int .i64 (R.2.1 : Int), .bool R.2.2]) ∧ w'.ownsRow w.heap.size 3 1 v R.1.length (ints R.1) ∧ Below w.heap.size w w'

theorem madefind_of {s p : ByteArray} {o : List Int} {k l : Nat} {w w' : World} {v : Value} {e : Ending} (h : findSt s p s.size = (o, k, l)) (he : e = .returned (.tuple #[v, .int .i64 (l : Int), .bool true])) (ho : w'.ownsRow w.heap.size 3 1 v o.length (ints o)) (hb : Below w.heap.size w w') : MadeFind ((findSt s p s.size).1, (findSt s p s.size).2.2, true) w e w' := by
  rw [h]; exact ⟨v, he, ho, hb⟩

/-- the borders of a text in memory of the call's own, read by whoever comes later -/
def BordC (p : ByteArray) (w : World) (e : Ending) (w' : World) : Prop :=
  ∃ g cp, e = .returned (.slice (some ⟨g, 0, none⟩) p.size cp) ∧ g < w'.heap.size ∧ (∀ wx, Below w'.heap.size w' wx → ∀ j, j < p.size → wx.cell? ⟨g, j, none⟩ = some (.int .i64 (((bordL p p.size).getD j 0 : Nat) : Int))) ∧ Below w.heap.size w w'
theorem bordc_of (p : ByteArray) (w w' : World) (v : Value) (h1 : 1 ≤ p.size) (ho : w'.ownsRow w.heap.size 3 1 v p.size (ints (nats (bordL p p.size)))) (hb : Below w.heap.size w w') : BordC p w (.returned v) w' := by
  obtain ⟨g, cp, rfl, _, hg⟩ := ho.form h1
  refine ⟨g, cp, rfl, hg, ?_, hb⟩
  intro wx hx j hj
  rw [(own_later ho hx).cellAt j (by omega)]
  simp only [ints, nats, List.getElem?_map, List.getD]
  rw [List.getElem?_eq_getElem (by rw [bordL_length]; omega)]; rfl

theorem impl_bordc (p : ByteArray) (w : World) (h1 : 1 ≤ p.size) (h2 : p.size ≤ 200) : Calls Try.prog 50 #[.string p] w (BordC p w) := by
  refine (impl_borders p w h2 h1).mono ?_
  rintro e w' ⟨rfl, ho, hb⟩
  exact bordc_of p w w' _ h1 ho hb

theorem spec_bordc (p : ByteArray) (w : World) (h1 : 1 ≤ p.size) (h2 : p.size ≤ 200) : Calls Try.prog 48 #[.string p] w (BordC p w) := by
  refine (spec_borders p w h2).mono ?_
  rintro e w' ⟨v, rfl, ho, hb⟩
  rw [nats_length, bordL_length] at ho
  exact bordc_of p w w' _ h1 ho hb

/-! ### the reference's walk -/
set_option maxRecDepth 100000 in
set_option maxHeartbeats 4000000 in
theorem spec_findAll (s p : ByteArray) (w : World) (hs : s.size ≤ maxLen) (hp : p.size ≤ maxLen) : Calls Try.prog 19 #[.string s, .string p] w (MadeFind (FindR s p) w) := by
  unfold maxLen at hs hp
  obtain ⟨i0, hi, hz0, hz1, hz2⟩ := info_parts Try.infoInt
  by_cases hs2 : s.size ≤ 200
  case neg =>
    rw [FindR_no s p (fun h => hs2 h.1)]
    go_enter Try.func19, Try.ntmps19
    go_wp2_with (go_at_call 47; refine (l1In_any _ _ _ _).mono ?_; rintro e w' ⟨rfl, rfl⟩)
    go_ret3
    exact ⟨_, rfl, World.ownsRow_nil _ _ _ _, Below.refl _ _⟩
  case pos =>
  cases hin : inB (p.size : Int) 1 200 with
  | false =>
    rw [FindR_no s p (fun h => by rw [hin] at h; exact absurd h.2 (by decide))]
    go_enter Try.func19, Try.ntmps19
    go_wp2_with (go_at_call 47; refine (l1In_any _ _ _ _).mono ?_; rintro e w' ⟨rfl, rfl⟩)
    go_ret3
    exact ⟨_, rfl, World.ownsRow_nil _ _ _ _, Below.refl _ _⟩
  | true =>
  rw [FindR_yes s p ⟨hs2, hin⟩]
  have hpb := inB_of hin
  have hp1 : 1 ≤ p.size := by omega
  have hp2 : p.size ≤ 200 := by omega
  have HBO := Lib.hid (fun wx => spec_bordc p wx hp1 hp2)
  have HBD := Lib.hid (findSt_bd s p hp1)
  have HLK := Lib.hid (findSt_looks s p hp1 hp2)
  clear hpb
  go_enter Try.func19, Try.ntmps19
  go_wp2_with (go_at_call 47; refine (l1In_any _ _ _ _).mono ?_; rintro e w' ⟨rfl, rfl⟩)
  refine (HBO.out _).mono ?_
  rintro e w1 ⟨gb, cb, rfl, hgb, hbc, hbw⟩
  have HBC := Lib.hid hbc; have HW := Lib.hid hbw; clear hbc hbw HBO
  go_wp2_with fail
  go_loopw [8, 9, 10, 11] (fun ov lv kv iv wr => ∃ (i : Nat) (v : Value) (o : List Int) (k l : Nat), i ≤ s.size ∧ iv = .int .i64 (i : Int) ∧ ov = v ∧ kv = .int .i64 (k : Int) ∧ lv = .int .i64 (l : Int) ∧ Hid (findSt s p i = (o, k, l)) ∧ Hid (wr.ownsRow w1.heap.size 3 1 v o.length (ints o)) ∧ Hid (Below w1.heap.size w1 wr)) (fun _ _ _ iv _ => s.size - (intOf iv).toNat)
  case atStart => exact ⟨0, _, [], 0, 0, by omega, rfl, rfl, rfl, rfl, rfl, World.ownsRow_nil _ _ _ _, Below.refl _ _⟩
  case round =>
    obtain ⟨i, v, o, k0, l0, hi2, rfl, rfl, rfl, rfl, HF, HOR, HBR⟩ := hrel
    have hbd := HBD.out i
    have hlk := HLK.out i
    rw [HF.out] at hbd hlk
    obtain ⟨hol, hk0, -⟩ := hbd
    simp only at hol hk0 hlk
    have HC3 : Hid (o.length + 1 ≤ maxLen) := by show o.length + 1 ≤ maxLen; unfold maxLen; omega
    have HC4 : Hid ((o.length + 1) * 8 ≤ 140737488355328) := by show (o.length + 1) * 8 ≤ 140737488355328; omega
    by_cases hlt : i < s.size
    · obtain ⟨wo, rfl⟩ : ∃ wo : World, wo = wr := ⟨_, rfl⟩
      have HN : Hid (∀ q, fbN p (atS s i) k0 (k0, l0 + 1) = q → findSt s p (i + 1) = finN p i (atS s i) o q) := by
        intro q hq
        rw [findSt, HF.out]
        simp only
        rw [hq]
      have HL0 : Hid (∀ v, wo.ownsRow w1.heap.size 3 1 v o.length (ints o) → wo.ownsRow w1.heap.size 3 1 v o.length (ints o)) := fun v h => h
      clear HF
      go_wp2_with fail
      go_loopw [9, 10] (fun lv kv wr => ∃ (f k l n : Nat), k ≤ f ∧ k < p.size ∧ l + k ≤ l0 + k0 ∧ Hid (fbN p (atS s i) f (k, l + 1) = fbN p (atS s i) k0 (k0, l0 + 1)) ∧ lv = .int .i64 (l : Int) ∧ kv = .int .i64 (k : Int) ∧ wr = wo.drewN n) (fun _ kv _ => (intOf kv).toNat)
      case atStart => exact ⟨k0, k0, l0, 0, Nat.le_refl _, hk0, Nat.le_refl _, rfl, rfl, rfl, rfl⟩
      case round =>
        obtain ⟨f, k, l, n, hkf, hks, hlk2, HF, rfl, rfl, rfl⟩ := hrel
        have z1 : (k : Int) < (p.size : Int) := by omega
        have z2 : (i : Int) < (s.size : Int) := by omega
        by_cases heq : atS p k = atS s i
        · have hex : fbN p (atS s i) f (k, l + 1) = (k, l + 1) := by cases f with | zero => rfl | succ f => rw [fbN, if_neg (by intro h; exact h.2 heq)]
          have hq := HN.out (k, l + 1) (HF.out.symm.trans hex)
          unfold finN at hq
          simp only [heq, if_true] at hq
          have hee : ((s[i].toNat : Int) == (p[k].toNat : Int)) = true := by rw [atS_eq p k hks, atS_eq s i hlt, heq]; simp
          by_cases hk1 : k + 1 = p.size
          · have hd : ((k : Int) + 1 == (p.size : Int)) = true := by simp; omega
            rw [if_pos hk1] at hq
            have HQ := Lib.hid hq
            clear hq hex heq HF HN
            go_wp2_with fail
            go_quiet (fail)
            have HC5 := Lib.hid (HBC.out)
            go_wp2_with (at_builtin; refine wpList_append_own _ rfl _ _ 25 rfl w1.heap.size 3 i0 (.int .i64 0) 1 8 Try.underlying25 hi hz0 hz1 hz2 rfl (by decide) _ o.length _ rfl ((own_drewN HOR.out _).alloc _) _ 1 1 [.int .i64 ((i : Int) + 1 - ((k : Int) + 1))] rfl rfl (news_one _ _ _) (by simp [Value.oneCell']) HC3.out HC4.out (Nat.le_trans HBR.out.size (by simp)) ?_)
            intro v' w2 hown hgrow hnil
            have hbw : Below w1.heap.size w1 w2 := Below.grown ((below_drewN HBR.out _).alloc HBR.out.size _) hgrow (Nat.le_trans HBR.out.size (by simp)) (fun j hj => (HOR.out.lt j hj).1)
            have hcb := HC5.out w2 hbw k (by omega)
            have HOW := Lib.hid hown; have HBW := Lib.hid hbw; clear hown hgrow hnil hbw
            go_wp2_with fail
            go_roundw
            case rel => exact ⟨i + 1, v', _, bk p (k + 1), l + 1, by omega, by go_num, rfl, rfl, by go_num, HQ.out, by rw [ints_snoc, List.length_append]; exact HOW.out, HBW.out⟩
            case measure => simp [intOf]; omega
          · have hd : ((k : Int) + 1 == (p.size : Int)) = false := by simp; omega
            rw [if_neg hk1] at hq
            have HQ := Lib.hid hq
            clear hq hex heq HF HN
            go_wp2_with fail
            go_quiet (fail)
            go_wp2_with fail
            go_roundw
            case rel => exact ⟨i + 1, _, o, k + 1, l + 1, by omega, by go_num, rfl, by go_num, by go_num, HQ.out, own_drewN HOR.out _, below_drewN HBR.out _⟩
            case measure => simp [intOf]; omega
        · have hee : ((s[i].toNat : Int) == (p[k].toNat : Int)) = false := by rw [beq_eq_false_iff_ne]; rw [atS_eq p k hks, atS_eq s i hlt]; intro h; exact heq (UInt8.toNat_inj.1 (by omega))
          by_cases hkp : 0 < k
          · have hd0 : ((k : Int) == 0) = false := by simp; omega
            have hb1 := HBC.out wo HBR.out (k - 1) (by omega)
            have hb2 := bk_le p k hkp (by omega)
            have hst : fbN p (atS s i) f (k, l + 1) = fbN p (atS s i) (f - 1) (bk p k, l + 1 + 1) := by rw [show f = (f - 1) + 1 by omega, fbN, if_pos ⟨hkp, heq⟩]; simp
            have HFS := Lib.hid (hst.symm.trans HF.out)
            clear hst heq HF HN
            change World.cell? _ _ = some (Value.int IntKind.i64 ((bk p k : Nat) : Int)) at hb1
            generalize bk p k = k2 at *
            go_wp2_with fail
            go_quiet (fail)
            go_wp2_with fail
            go_roundw
            case rel => exact ⟨f - 1, k2, l + 1, _, by omega, by omega, by omega, HFS.out, by go_num, rfl, rfl⟩
            case measure => simp [intOf]; omega
          · have hex : fbN p (atS s i) f (k, l + 1) = (k, l + 1) := by cases f with | zero => rfl | succ f => rw [fbN, if_neg (by intro h; exact hkp h.1)]
            have hq := HN.out (k, l + 1) (HF.out.symm.trans hex)
            unfold finN at hq
            simp only [if_neg heq] at hq
            rw [if_neg (by omega)] at hq
            have hd0 : ((k : Int) == 0) = true := by simp; omega
            have hd : ((k : Int) == (p.size : Int)) = false := by simp; omega
            have HQ := Lib.hid hq
            clear hq hex heq HF HN
            go_wp2_with fail
            go_quiet (fail)
            go_wp2_with fail
            go_roundw
            case rel => exact ⟨i + 1, _, o, k, l + 1, by omega, by go_num, rfl, rfl, by go_num, HQ.out, own_drewN HOR.out _, below_drewN HBR.out _⟩
            case measure => simp [intOf]; omega
    · go_wp2_with fail
      go_ret3
      obtain rfl : i = s.size := by omega
      exact madefind_of HF.out rfl (own_mono HOR.out HW.out.size) (HW.out.trans (HBR.out.mono HW.out.size))

set_option maxRecDepth 100000 in
set_option maxHeartbeats 4000000 in
theorem impl_findAll (s p : ByteArray) (w : World) (hs : s.size ≤ maxLen) (hp : p.size ≤ maxLen) : Calls Try.prog 20 #[.string s, .string p] w (MadeFind (FindR s p) w) := by
  unfold maxLen at hs hp
  obtain ⟨i0, hi, hz0, hz1, hz2⟩ := info_parts Try.infoInt
  by_cases hs2 : s.size ≤ 200
  case neg =>
    rw [FindR_no s p (fun h => hs2 h.1)]
    go_enter Try.func20, Try.ntmps20
    go_wp2_with (go_at_call 49; refine (within_any _ _ _ _).mono ?_; rintro e w' ⟨rfl, rfl⟩)
    go_ret3
    exact ⟨_, rfl, World.ownsRow_nil _ _ _ _, Below.refl _ _⟩
  case pos =>
  cases hin : inB (p.size : Int) 1 200 with
  | false =>
    rw [FindR_no s p (fun h => by rw [hin] at h; exact absurd h.2 (by decide))]
    go_enter Try.func20, Try.ntmps20
    go_wp2_with (go_at_call 49; refine (within_any _ _ _ _).mono ?_; rintro e w' ⟨rfl, rfl⟩)
    go_ret3
    exact ⟨_, rfl, World.ownsRow_nil _ _ _ _, Below.refl _ _⟩
  | true =>
  rw [FindR_yes s p ⟨hs2, hin⟩]
  have hpb := inB_of hin
  have hp1 : 1 ≤ p.size := by omega
  have hp2 : p.size ≤ 200 := by omega
  have HBO := Lib.hid (fun wx => impl_bordc p wx hp1 hp2)
  have HBD := Lib.hid (findSt_bd s p hp1)
  have HLK := Lib.hid (findSt_looks s p hp1 hp2)
  clear hpb
  go_enter Try.func20, Try.ntmps20
  go_wp2_with (go_at_call 49; refine (within_any _ _ _ _).mono ?_; rintro e w' ⟨rfl, rfl⟩)
  refine (HBO.out _).mono ?_
  rintro e w1 ⟨gb, cb, rfl, hgb, hbc, hbw⟩
  have HBC := Lib.hid hbc; have HW := Lib.hid hbw; clear hbc hbw HBO
  go_wp2_with fail
  go_loopw [8, 9, 10, 11, 26] (fun ov kv lv _ iv wr => ∃ (i : Nat) (v : Value) (o : List Int) (k l : Nat), i ≤ s.size ∧ iv = .int .i64 (i : Int) ∧ ov = v ∧ kv = .int .i64 (k : Int) ∧ lv = .int .i64 (l : Int) ∧ Hid (findSt s p i = (o, k, l)) ∧ Hid (wr.ownsRow w1.heap.size 3 1 v o.length (ints o)) ∧ Hid (Below w1.heap.size w1 wr)) (fun _ _ _ _ iv _ => s.size - (intOf iv).toNat)
  case atStart => exact ⟨0, _, [], 0, 0, by omega, rfl, rfl, rfl, rfl, rfl, World.ownsRow_made _ #[] 0 (Nat.le_refl _) (by unfold maxLen; omega) rfl, (Below.refl _ _).alloc (Nat.le_refl _) _⟩
  case round =>
    obtain ⟨i, v, o, k0, l0, hi2, rfl, rfl, rfl, rfl, HF, HOR, HBR⟩ := hrel
    have hbd := HBD.out i
    have hlk := HLK.out i
    rw [HF.out] at hbd hlk
    obtain ⟨hol, hk0, -⟩ := hbd
    simp only at hol hk0 hlk
    have HC3 : Hid (o.length + 1 ≤ maxLen) := by show o.length + 1 ≤ maxLen; unfold maxLen; omega
    have HC4 : Hid ((o.length + 1) * 8 ≤ 140737488355328) := by show (o.length + 1) * 8 ≤ 140737488355328; omega
    by_cases hlt : i < s.size
    · obtain ⟨wo, rfl⟩ : ∃ wo : World, wo = wr := ⟨_, rfl⟩
      have HN : Hid (∀ q, fbN p (atS s i) k0 (k0, l0 + 1) = q → findSt s p (i + 1) = finN p i (atS s i) o q) := by
        intro q hq
        rw [findSt, HF.out]
        simp only
        rw [hq]
      clear HF
      go_wp2_with fail
      go_loopw [9, 10] (fun kv lv wr => ∃ (f k l n : Nat), k ≤ f ∧ k < p.size ∧ l + k ≤ l0 + 1 + k0 ∧ Hid (fbN p (atS s i) f (k, l) = fbN p (atS s i) k0 (k0, l0 + 1)) ∧ lv = .int .i64 (l : Int) ∧ kv = .int .i64 (k : Int) ∧ wr = wo.drewN n) (fun kv _ _ => (intOf kv).toNat)
      case atStart => exact ⟨k0, k0, l0 + 1, 0, Nat.le_refl _, hk0, Nat.le_refl _, rfl, by go_num, rfl, rfl⟩
      case round =>
        obtain ⟨f, k, l, n, hkf, hks, hlk2, HF, rfl, rfl, rfl⟩ := hrel
        have z1 : (k : Int) < (p.size : Int) := by omega
        have z2 : (i : Int) < (s.size : Int) := by omega
        by_cases heq : atS p k = atS s i
        · have hex : fbN p (atS s i) f (k, l) = (k, l) := by cases f with | zero => rfl | succ f => rw [fbN, if_neg (by intro h; exact h.2 heq)]
          have hq := HN.out (k, l) (HF.out.symm.trans hex)
          unfold finN at hq
          simp only [heq, if_true] at hq
          have hee : ((s[i].toNat : Int) == (p[k].toNat : Int)) = true := by rw [atS_eq p k hks, atS_eq s i hlt, heq]; simp
          have hne : ((s[i].toNat : Int) != (p[k].toNat : Int)) = false := by rw [atS_eq p k hks, atS_eq s i hlt, heq]; simp
          by_cases hk1 : k + 1 = p.size
          · have hd : ((k : Int) + 1 == (p.size : Int)) = true := by simp; omega
            rw [if_pos hk1] at hq
            have HQ := Lib.hid hq
            clear hq hex heq HF HN
            by_cases hkp : 0 < k
            · have hd0 : decide (0 < (k : Int)) = true := by simp; omega
              go_wp2_with fail
              go_quiet (fail)
              go_wp2_with fail
              go_quiet (fail)
              have HC5 := Lib.hid (HBC.out)
              go_wp2_with (at_builtin; refine wpList_append_own _ rfl _ _ 25 rfl w1.heap.size 3 i0 (.int .i64 0) 1 8 Try.underlying25 hi hz0 hz1 hz2 rfl (by decide) _ o.length _ rfl ((own_drewN HOR.out _).alloc _) _ 1 1 [.int .i64 ((i : Int) + 1 - ((k : Int) + 1))] rfl rfl (news_one _ _ _) (by simp [Value.oneCell']) HC3.out HC4.out (Nat.le_trans HBR.out.size (by simp)) ?_)
              intro v' w2 hown hgrow hnil
              have hbw : Below w1.heap.size w1 w2 := Below.grown ((below_drewN HBR.out _).alloc HBR.out.size _) hgrow (Nat.le_trans HBR.out.size (by simp)) (fun j hj => (HOR.out.lt j hj).1)
              have hcb := HC5.out w2 hbw k (by omega)
              have HOW := Lib.hid hown; have HBW := Lib.hid hbw; clear hown hgrow hnil hbw
              go_wp2_with fail
              go_roundw
              case rel => exact ⟨i + 1, v', _, bk p (k + 1), l, by omega, by go_num, rfl, rfl, rfl, HQ.out, by rw [ints_snoc, List.length_append]; exact HOW.out, HBW.out⟩
              case measure => simp [intOf]; omega
            · have hd0 : decide (0 < (k : Int)) = false := by simp; omega
              go_wp2_with fail
              go_quiet (fail)
              go_wp2_with fail
              go_quiet (fail)
              have HC5 := Lib.hid (HBC.out)
              go_wp2_with (at_builtin; refine wpList_append_own _ rfl _ _ 25 rfl w1.heap.size 3 i0 (.int .i64 0) 1 8 Try.underlying25 hi hz0 hz1 hz2 rfl (by decide) _ o.length _ rfl ((own_drewN HOR.out _).alloc _) _ 1 1 [.int .i64 ((i : Int) + 1 - ((k : Int) + 1))] rfl rfl (news_one _ _ _) (by simp [Value.oneCell']) HC3.out HC4.out (Nat.le_trans HBR.out.size (by simp)) ?_)
              intro v' w2 hown hgrow hnil
              have hbw : Below w1.heap.size w1 w2 := Below.grown ((below_drewN HBR.out _).alloc HBR.out.size _) hgrow (Nat.le_trans HBR.out.size (by simp)) (fun j hj => (HOR.out.lt j hj).1)
              have hcb := HC5.out w2 hbw k (by omega)
              have HOW := Lib.hid hown; have HBW := Lib.hid hbw; clear hown hgrow hnil hbw
              go_wp2_with fail
              go_roundw
              case rel => exact ⟨i + 1, v', _, bk p (k + 1), l, by omega, by go_num, rfl, rfl, rfl, HQ.out, by rw [ints_snoc, List.length_append]; exact HOW.out, HBW.out⟩
              case measure => simp [intOf]; omega
          · have hd : ((k : Int) + 1 == (p.size : Int)) = false := by simp; omega
            rw [if_neg hk1] at hq
            have HQ := Lib.hid hq
            clear hq hex heq HF HN
            by_cases hkp : 0 < k
            · have hd0 : decide (0 < (k : Int)) = true := by simp; omega
              go_wp2_with fail
              go_quiet (fail)
              go_wp2_with fail
              go_quiet (fail)
              go_wp2_with fail
              go_roundw
              case rel => exact ⟨i + 1, _, o, k + 1, l, by omega, by go_num, rfl, by go_num, rfl, HQ.out, own_drewN HOR.out _, below_drewN HBR.out _⟩
              case measure => simp [intOf]; omega
            · have hd0 : decide (0 < (k : Int)) = false := by simp; omega
              go_wp2_with fail
              go_quiet (fail)
              go_wp2_with fail
              go_quiet (fail)
              go_wp2_with fail
              go_roundw
              case rel => exact ⟨i + 1, _, o, k + 1, l, by omega, by go_num, rfl, by go_num, rfl, HQ.out, own_drewN HOR.out _, below_drewN HBR.out _⟩
              case measure => simp [intOf]; omega
        · have hee : ((s[i].toNat : Int) == (p[k].toNat : Int)) = false := by rw [beq_eq_false_iff_ne]; rw [atS_eq p k hks, atS_eq s i hlt]; intro h; exact heq (UInt8.toNat_inj.1 (by omega))
          have hne : ((s[i].toNat : Int) != (p[k].toNat : Int)) = true := by rw [bne_iff_ne]; rw [atS_eq p k hks, atS_eq s i hlt]; intro h; exact heq (UInt8.toNat_inj.1 (by omega))
          by_cases hkp : 0 < k
          · have hd0 : decide (0 < (k : Int)) = true := by simp; omega
            have hb1 := HBC.out wo HBR.out (k - 1) (by omega)
            have hb2 := bk_le p k hkp (by omega)
            have hst : fbN p (atS s i) f (k, l) = fbN p (atS s i) (f - 1) (bk p k, l + 1) := by rw [show f = (f - 1) + 1 by omega, fbN, if_pos ⟨hkp, heq⟩]; simp
            have HFS := Lib.hid (hst.symm.trans HF.out)
            clear hst heq HF HN
            change World.cell? _ _ = some (Value.int IntKind.i64 ((bk p k : Nat) : Int)) at hb1
            generalize bk p k = k2 at *
            go_wp2_with fail
            go_quiet (fail)
            go_wp2_with fail
            go_roundw
            case rel => exact ⟨f - 1, k2, l + 1, _, by omega, by omega, by omega, HFS.out, by go_num, rfl, rfl⟩
            case measure => simp [intOf]; omega
          · have hex : fbN p (atS s i) f (k, l) = (k, l) := by cases f with | zero => rfl | succ f => rw [fbN, if_neg (by intro h; exact hkp h.1)]
            have hq := HN.out (k, l) (HF.out.symm.trans hex)
            unfold finN at hq
            simp only [if_neg heq] at hq
            rw [if_neg (by omega)] at hq
            have hd0 : decide (0 < (k : Int)) = false := by simp; omega
            have hd : ((k : Int) == (p.size : Int)) = false := by simp; omega
            have HQ := Lib.hid hq
            clear hq hex heq HF HN
            go_wp2_with fail
            go_quiet (fail)
            go_wp2_with fail
            go_quiet (fail)
            go_wp2_with fail
            go_roundw
            case rel => exact ⟨i + 1, _, o, k, l, by omega, by go_num, rfl, rfl, rfl, HQ.out, own_drewN HOR.out _, below_drewN HBR.out _⟩
            case measure => simp [intOf]; omega
    · go_wp2_with fail
      go_ret3
      obtain rfl : i = s.size := by omega
      exact madefind_of HF.out rfl (own_mono HOR.out HW.out.size) (HW.out.trans (HBR.out.mono HW.out.size))

end Go.Proofs.Ytfkcchbbbfeamaa
