/- The contracts of the borders of a text, the program's and the reference's: one plain function. -/
import Derived.Test.YtfkcchbbbfeamaaInts
import Derived.Test.YtfkcchbbbfeamaaRanges
import Derived.Lib.ConvBytes
import Derived.Deep.AppendLies
namespace Go.Proofs.Ytfkcchbbbfeamaa
set_option linter.unusedVariables false
open Go.ChangeShapes Go.WideShapes Go.ChangeAt Go.RowKit

/-! ### plain -/
def atS (s : ByteArray) (k : Nat) : UInt8 := s.data.toList.getD k 0
theorem atS_eq (s : ByteArray) (k : Nat) (h : k < s.size) : s[k] = atS s k := by
  have h' : k < s.data.toList.length := by simpa using h
  unfold atS
  rw [List.getD, List.getElem?_eq_getElem h']
  rfl
/-- falling back to shorter borders till one goes on with the byte c -/
def fb (s : ByteArray) (out : List Nat) (c : UInt8) : Nat → Nat → Nat
  | 0, k => k
  | f + 1, k => if 0 < k ∧ atS s k ≠ c then fb s out c f (out.getD (k - 1) 0) else k
def nextB (s : ByteArray) (out : List Nat) (c : UInt8) (k0 : Nat) : Nat := if atS s (fb s out c k0 k0) = c then fb s out c k0 k0 + 1 else fb s out c k0 k0
def bordL (s : ByteArray) : Nat → List Nat
  | 0 => []
  | i + 1 => bordL s i ++ [if i = 0 then 0 else nextB s (bordL s i) (atS s i) ((bordL s i).getD (i - 1) 0)]

def LeIdx (out : List Nat) : Prop := ∀ j, j < out.length → out.getD j 0 ≤ j
theorem fb_le (s : ByteArray) (out : List Nat) (c : UInt8) (hL : LeIdx out) : ∀ (f k : Nat), k ≤ out.length → fb s out c f k ≤ k
  | 0, k, _ => Nat.le_refl _
  | f + 1, k, h => by
    unfold fb
    by_cases hc : 0 < k ∧ atS s k ≠ c
    · rw [if_pos hc]
      have h1 := hL (k - 1) (by omega)
      have := fb_le s out c hL f (out.getD (k - 1) 0) (by omega)
      omega
    · rw [if_neg hc]; exact Nat.le_refl _
theorem bordL_length (s : ByteArray) : ∀ i, (bordL s i).length = i
  | 0 => rfl
  | i + 1 => by simp [bordL, bordL_length s i]
theorem getD_app {α : Type} (l : List α) (x d : α) (j : Nat) : (l ++ [x]).getD j d = if j < l.length then l.getD j d else if j = l.length then x else d := by
  simp only [List.getD]
  by_cases h : j < l.length
  · rw [List.getElem?_append_left h, if_pos h]
  · rw [List.getElem?_append_right (by omega), if_neg h]
    by_cases h2 : j = l.length
    · subst h2; simp
    · rw [if_neg h2, List.getElem?_eq_none (by simp; omega)]; rfl
theorem bordL_le (s : ByteArray) : ∀ i, LeIdx (bordL s i)
  | 0 => fun j h => by simp [bordL] at h
  | i + 1 => by
    intro j h
    rw [bordL_length] at h
    rw [bordL, getD_app, bordL_length]
    by_cases hj : j < i
    · rw [if_pos hj]; exact bordL_le s i j (by rw [bordL_length]; exact hj)
    · rw [if_neg hj, if_pos (by omega)]
      by_cases h0 : i = 0
      · rw [if_pos h0]; omega
      · rw [if_neg h0]
        have h1 := bordL_le s i (i - 1) (by rw [bordL_length]; omega)
        have h2 := fb_le s (bordL s i) (atS s i) (bordL_le s i) ((bordL s i).getD (i - 1) 0) ((bordL s i).getD (i - 1) 0) (by rw [bordL_length]; omega)
        unfold nextB
        split <;> omega
theorem bordL_getD (s : ByteArray) (i j : Nat) (h : j < i) : ∀ d, (bordL s (i + d)).getD j 0 = (bordL s i).getD j 0
  | 0 => rfl
  | d + 1 => by
    rw [← Nat.add_assoc, bordL, getD_app, bordL_length, if_pos (by omega)]
    exact bordL_getD s i j h d
def nats (xs : List Nat) : List Int := xs.map fun (n : Nat) => (n : Int)
@[simp] theorem nats_length (xs : List Nat) : (nats xs).length = xs.length := by simp [nats]

/-- what the program's list holds before place i is filled: the borders so far, then noughts -/
theorem nats_getD (xs : List Nat) (j : Nat) : (nats xs).getD j 0 = ((xs.getD j 0 : Nat) : Int) := by
  simp only [nats, List.getD, List.getElem?_map]
  cases xs[j]? <;> simp

theorem bord_set (bs : List Nat) (i n kf : Nat) (hl : bs.length = i) (hi : i < n) : (ints (nats bs ++ List.replicate (n - i) 0)).set i (.int .i64 (kf : Int)) = ints (nats (bs ++ [kf]) ++ List.replicate (n - (i + 1)) 0) := by
  subst hl
  obtain ⟨m, hm⟩ : ∃ m, n - bs.length = m + 1 := ⟨n - bs.length - 1, by omega⟩
  rw [show n - (bs.length + 1) = m by omega, hm]
  simp [ints, nats, List.replicate_succ]

set_option maxRecDepth 100000 in
set_option maxHeartbeats 2000000 in
theorem impl_borders (s : ByteArray) (w : World) (hs : s.size ≤ 200) (hs1 : 1 ≤ s.size) :
    Calls Try.prog 50 #[.string s] w fun e w' => e = .returned (.slice (some ⟨w.heap.size, 0, none⟩) s.size s.size) ∧ w'.ownsRow w.heap.size 3 1 (.slice (some ⟨w.heap.size, 0, none⟩) s.size s.size) s.size (ints (nats (bordL s s.size))) ∧ Below w.heap.size w w' := by
  obtain ⟨i0, hi, hz0, hz1, hz2⟩ := info_parts Try.infoInt
  go_enter Try.func50, Try.ntmps50
  go_wp2_with (refine wpList_make_full _ rfl _ _ _ rfl w.heap.size 3 i0 (.int .i64 0) 1 Try.underlying25 hi hz0 hz1 .i64 .i64 _ _ s.size rfl rfl rfl rfl ?c1 ?c2 ?c3 ?_)
  case c1 => rw [hz2]; omega
  case c2 => unfold maxLen; omega
  case c3 => exact Nat.le_refl _
  intro w1 hown hgrow
  have hb : Below w.heap.size w w1 := (Below.refl _ _).grown hgrow (Nat.le_refl _) (by simp)
  have hown' : w1.ownsRow w.heap.size 3 1 (.slice (some ⟨w.heap.size, 0, none⟩) s.size s.size) s.size (ints (nats (bordL s 1) ++ List.replicate (s.size - 1) 0)) := by
    have h0 : ints (nats (bordL s 1) ++ List.replicate (s.size - 1) 0) = (madeCells #[.int .i64 0] s.size).toList := by
      rw [toList_madeCells_one]
      obtain ⟨m, hm⟩ : ∃ m, s.size = m + 1 := ⟨s.size - 1, by omega⟩
      rw [hm]
      simp [bordL, nats, ints, List.replicate_succ]
    rw [h0]; exact hown
  have HO := Lib.hid hown'; have HB := Lib.hid hb
  clear hown hgrow hown' hb
  go_wp2_with fail
  go_loopw [4, 5] (fun iv _ wr => ∃ i : Nat, 1 ≤ i ∧ i ≤ s.size ∧ iv = .int .i64 (i : Int) ∧ Hid (wr.ownsRow w.heap.size 3 1 (.slice (some ⟨w.heap.size, 0, none⟩) s.size s.size) s.size (ints (nats (bordL s i) ++ List.replicate (s.size - i) 0))) ∧ Hid (Below w.heap.size w wr)) (fun iv _ _ => s.size - (intOf iv).toNat)
  case atStart => exact ⟨1, by omega, by omega, rfl, HO, HB⟩
  case round =>
    obtain ⟨i, hi1, hi2, rfl, HOR, HBR⟩ := hrel
    clear HO HB
    by_cases hlt : i < s.size
    · obtain ⟨wo, rfl⟩ : ∃ wo : World, wo = wr := ⟨_, rfl⟩
      have hol := HOR.out
      have hlen := bordL_length s i
      have hle := bordL_le s i
      have hk0 : (bordL s i).getD (i - 1) 0 ≤ i - 1 := hle (i - 1) (by omega)
      have hcell : ∀ j, j < i → wo.cell? ⟨w.heap.size, j, none⟩ = some (.int .i64 (((bordL s i).getD j 0 : Nat) : Int)) := by
        intro j hj
        rw [hol.cellAt j (by omega)]
        have : (nats (bordL s i) ++ List.replicate (s.size - i) 0)[j]? = some (((bordL s i).getD j 0 : Nat) : Int) := by
          rw [List.getElem?_append_left (by simp; omega)]
          simp only [nats, List.getElem?_map, List.getD]
          rw [List.getElem?_eq_getElem (by omega)]; rfl
        simp only [ints, List.getElem?_map, this]; rfl
      have hci := hol.cellAt i (by omega)
      have hfz := hol.frozenAt i
      have HC := Lib.hid hcell
      have h1 := HC.out (i - 1) (by omega)
      have HSET : Hid (∀ (m kf : Nat), nextB s (bordL s i) (atS s i) ((bordL s i).getD (i - 1) 0) = kf → ((wo.drewN m).setCell ⟨w.heap.size, i, none⟩ (.int .i64 (kf : Int))).ownsRow w.heap.size 3 1 (.slice (some ⟨w.heap.size, 0, none⟩) s.size s.size) s.size (ints (nats (bordL s (i + 1)) ++ List.replicate (s.size - (i + 1)) 0))) := by
        intro m kf hkf
        have := ((own_later (w := wo) (w' := wo.drewN m) hol (below_drewN (Below.refl _ _) _)).stored i (.int .i64 (kf : Int))).1
        rw [bord_set (bordL s i) i s.size kf (bordL_length s i) hlt] at this
        rw [bordL, if_neg (by omega), hkf]
        exact this
      have HLE := Lib.hid (fun j (hj : j < i) => hle j (by omega))
      clear hcell hol hle HOR
      generalize hbs : bordL s i = bs at *
      clear hbs
      generalize bs.getD (i - 1) 0 = k0 at *
      go_wp2_with fail
      go_loopw [5] (fun kv wr => ∃ (f k n : Nat), k ≤ f ∧ k ≤ i - 1 ∧ Hid (fb s bs (atS s i) f k = fb s bs (atS s i) k0 k0) ∧ kv = .int .i64 (k : Int) ∧ wr = wo.drewN n) (fun kv _ => (intOf kv).toNat)
      case atStart => exact ⟨k0, k0, 0, Nat.le_refl _, hk0, rfl, rfl, rfl⟩
      case round =>
        obtain ⟨f, k, n, hkf, hki, HF, rfl, rfl⟩ := hrel
        have hks : k < s.size := by omega
        have hfz' := hfz
        have hq0 : fb s bs (atS s i) f k = k → nextB s bs (atS s i) k0 = if atS s k = atS s i then k + 1 else k := by
          intro h
          unfold nextB
          rw [← HF.out, h]
        by_cases heq : atS s k = atS s i
        · have hex : fb s bs (atS s i) f k = k := by cases f with | zero => rfl | succ f => rw [fb, if_neg (by intro h; exact h.2 heq)]
          have hq := hq0 hex
          rw [if_pos heq] at hq
          have HST := Lib.hid (fun m => HSET.out m (k + 1) hq)
          have hne : ((s[k].toNat : Int) != (s[i].toNat : Int)) = false := by rw [atS_eq s k hks, atS_eq s i hlt, heq]; simp
          have hee : ((s[k].toNat : Int) == (s[i].toNat : Int)) = true := by rw [atS_eq s k hks, atS_eq s i hlt, heq]; simp
          have z1 : (k : Int) < (s.size : Int) := by omega
          have z2 : (i : Int) < (s.size : Int) := by omega
          clear hq0 hex hq heq HSET HF
          by_cases hkp : 0 < k
          · have hd : decide (0 < (k : Int)) = true := by simp; omega
            go_wp2_with fail
            go_quiet (fail)
            go_wp2_with fail
            go_quiet (fail)
            go_wp2_with fail
            go_roundw
            case rel => exact ⟨i + 1, by omega, by omega, by go_num, HST.out _, (below_drewN HBR.out _).setCell (p := ⟨w.heap.size, i, none⟩) (Nat.le_refl _) _⟩
            case measure => simp [intOf]; omega
          · have hd : decide (0 < (k : Int)) = false := by simp; omega
            go_wp2_with fail
            go_quiet (fail)
            go_wp2_with fail
            go_quiet (fail)
            go_wp2_with fail
            go_roundw
            case rel => exact ⟨i + 1, by omega, by omega, by go_num, HST.out _, (below_drewN HBR.out _).setCell (p := ⟨w.heap.size, i, none⟩) (Nat.le_refl _) _⟩
            case measure => simp [intOf]; omega
        · have hne : ((s[k].toNat : Int) != (s[i].toNat : Int)) = true := by rw [bne_iff_ne]; rw [atS_eq s k hks, atS_eq s i hlt]; intro h; exact heq (UInt8.toNat_inj.1 (by omega))
          have hee : ((s[k].toNat : Int) == (s[i].toNat : Int)) = false := by rw [beq_eq_false_iff_ne]; rw [atS_eq s k hks, atS_eq s i hlt]; intro h; exact heq (UInt8.toNat_inj.1 (by omega))
          have z1 : (k : Int) < (s.size : Int) := by omega
          have z2 : (i : Int) < (s.size : Int) := by omega
          by_cases hkp : 0 < k
          · have hd : decide (0 < (k : Int)) = true := by simp; omega
            have h2 := HC.out (k - 1) (by omega)
            have hl2 := HLE.out (k - 1) (by omega)
            have hst : fb s bs (atS s i) f k = fb s bs (atS s i) (f - 1) (bs.getD (k - 1) 0) := by rw [show f = (f - 1) + 1 by omega, fb, if_pos ⟨hkp, heq⟩]; simp
            have HFS := Lib.hid (hst.symm.trans HF.out)
            clear hq0 hst heq HF
            generalize bs.getD (k - 1) 0 = k2 at *
            go_wp2_with fail
            go_quiet (fail)
            go_wp2_with fail
            go_roundw
            case rel => exact ⟨f - 1, k2, _, by omega, by omega, HFS.out, rfl, rfl⟩
            case measure => simp [intOf]; omega
          · have hex : fb s bs (atS s i) f k = k := by cases f with | zero => rfl | succ f => rw [fb, if_neg (by intro h; exact hkp h.1)]
            have hq := hq0 hex
            rw [if_neg heq] at hq
            have HST := Lib.hid (fun m => HSET.out m k hq)
            have hd : decide (0 < (k : Int)) = false := by simp; omega
            clear hq0 hex hq heq HSET HF
            go_wp2_with fail
            go_quiet (fail)
            go_wp2_with fail
            go_quiet (fail)
            go_wp2_with fail
            go_roundw
            case rel => exact ⟨i + 1, by omega, by omega, by go_num, HST.out _, (below_drewN HBR.out _).setCell (p := ⟨w.heap.size, i, none⟩) (Nat.le_refl _) _⟩
            case measure => simp [intOf]; omega
    · go_wp2_with fail
      go_ret
      obtain rfl : i = s.size := by omega
      have h := HOR.out
      rw [Nat.sub_self, List.replicate_zero, List.append_nil] at h
      exact ⟨rfl, h, HBR.out⟩
theorem below_bytes (w : World) (e : TypeId) (s : ByteArray) : Below w.heap.size w (Lib.bytesWorld w e s) :=
  ⟨rfl, rfl, rfl, by rw [Lib.bytesWorld_size]; omega, fun k hk => Lib.bytesWorld_at_old w e s k hk⟩

/-- A list of numbers in new memory of the call's own. -/
def MadeInts (xs : List Int) (w : World) (e : Ending) (w' : World) : Prop :=
  ∃ v, e = .returned v ∧ w'.ownsRow w.heap.size 3 1 v xs.length (ints xs) ∧ Below w.heap.size w w'

theorem ints_snoc (xs : List Int) (x : Int) : ints (xs ++ [x]) = ints xs ++ [.int .i64 x] := by simp [ints]
theorem nats_snoc (xs : List Nat) (x : Nat) : nats (xs ++ [x]) = nats xs ++ [(x : Int)] := by simp [nats]

set_option maxRecDepth 100000 in
set_option maxHeartbeats 4000000 in
theorem spec_borders (s : ByteArray) (w : World) (hs : s.size ≤ 200) :
    Calls Try.prog 48 #[.string s] w (MadeInts (nats (bordL s s.size)) w) := by
  obtain ⟨i0, hi, hz0, hz1, hz2⟩ := info_parts Try.infoInt
  have hconv := fun wx => Lib.run_convert_string_bytes (P := Try.prog) wx 9 33 5 s Try.underlying9 Try.underlying33 Try.underlying5
  go_enter Try.func48, Try.ntmps48
  go_wp2_with fail
  have HB0 := Lib.hid (below_bytes w 5 s)
  clear hconv
  generalize Lib.bytesWorld w 5 s = w1 at *
  generalize grownCap w s.size 0 5 = cc at *
  go_loopw [3, 4, 5, 9] (fun ov _ _ iv wr => ∃ (i : Nat) (v : Value), i ≤ s.size ∧ iv = .int .i64 (i : Int) ∧ ov = v ∧ Hid (wr.ownsRow w.heap.size 3 1 v i (ints (nats (bordL s i)))) ∧ Hid (Below w.heap.size w wr)) (fun _ _ _ iv _ => s.size - (intOf iv).toNat)
  case atStart => exact ⟨0, _, by omega, rfl, rfl, World.ownsRow_nil _ _ _ _, HB0⟩
  case round =>
    obtain ⟨i, v, hi2, rfl, rfl, HOR, HBR⟩ := hrel
    clear HB0
    have HC3 : Hid (i + 1 ≤ maxLen) := by show i + 1 ≤ maxLen; unfold maxLen; omega
    have HC4 : Hid ((i + 1) * 8 ≤ 140737488355328) := by show (i + 1) * 8 ≤ 140737488355328; omega
    by_cases hlt : i < s.size
    · obtain ⟨wo, rfl⟩ : ∃ wo : World, wo = wr := ⟨_, rfl⟩
      by_cases h0 : 0 < i
      · obtain ⟨g, cp, rfl, _, hglt⟩ := HOR.out.form h0
        have hol := HOR.out
        have hlen := bordL_length s i
        have hle := bordL_le s i
        have hk0 : (bordL s i).getD (i - 1) 0 ≤ i - 1 := hle (i - 1) (by omega)
        have hcell : ∀ j, j < i → wo.cell? ⟨g, j, none⟩ = some (.int .i64 (((bordL s i).getD j 0 : Nat) : Int)) := by
          intro j hj
          rw [hol.cellAt j (by omega)]
          simp only [ints, nats, List.getElem?_map, List.getD]
          rw [List.getElem?_eq_getElem (by omega)]; rfl
        have HC := Lib.hid hcell
        have h1 := HC.out (i - 1) (by omega)
        have HSET : Hid (∀ (kf : Nat), nextB s (bordL s i) (atS s i) ((bordL s i).getD (i - 1) 0) = kf → ∀ (wx : World) (v : Value), wx.ownsRow w.heap.size 3 1 v (i + 1) (ints (nats (bordL s i)) ++ [.int .i64 (kf : Int)]) → wx.ownsRow w.heap.size 3 1 v (i + 1) (ints (nats (bordL s (i + 1))))) := by
          intro kf hkf wx v hx
          rw [bordL, if_neg (by omega), hkf, nats_snoc, ints_snoc]
          exact hx
        have HLE := Lib.hid (fun j (hj : j < i) => hle j (by omega))
        clear hcell hol hle
        generalize hbs : bordL s i = bs at *
        clear hbs
        generalize bs.getD (i - 1) 0 = k0 at *
        go_wp2_with fail
        go_loopw [5] (fun kv wr => ∃ (f k n : Nat), k ≤ f ∧ k ≤ i - 1 ∧ Hid (fb s bs (atS s i) f k = fb s bs (atS s i) k0 k0) ∧ kv = .int .i64 (k : Int) ∧ wr = wo.drewN n) (fun kv _ => (intOf kv).toNat)
        case atStart => exact ⟨k0, k0, 0, Nat.le_refl _, hk0, rfl, rfl, rfl⟩
        case round =>
          obtain ⟨f, k, n, hkf, hki, HF, rfl, rfl⟩ := hrel
          have hks : k < s.size := by omega
          have hq0 : fb s bs (atS s i) f k = k → nextB s bs (atS s i) k0 = if atS s k = atS s i then k + 1 else k := by
            intro h
            unfold nextB
            rw [← HF.out, h]
          by_cases heq : atS s k = atS s i
          · have hex : fb s bs (atS s i) f k = k := by cases f with | zero => rfl | succ f => rw [fb, if_neg (by intro h; exact h.2 heq)]
            have hq := hq0 hex
            rw [if_pos heq] at hq
            have HFIN := Lib.hid (HSET.out (k + 1) hq)
            have hne : ((s[k].toNat : Int) != (s[i].toNat : Int)) = false := by rw [atS_eq s k hks, atS_eq s i hlt, heq]; simp
            have hee : ((s[k].toNat : Int) == (s[i].toNat : Int)) = true := by rw [atS_eq s k hks, atS_eq s i hlt, heq]; simp
            have z1 : (k : Int) < (s.size : Int) := by omega
            have z2 : (i : Int) < (s.size : Int) := by omega
            clear hq0 hex hq heq HSET HF
            by_cases hkp : 0 < k
            · have hd : decide (0 < (k : Int)) = true := by simp; omega
              go_wp2_with fail
              go_quiet (fail)
              go_wp2_with fail
              go_quiet (fail)
              go_wp2_with (at_builtin; refine wpList_append_own _ rfl _ _ 25 rfl w.heap.size 3 i0 (.int .i64 0) 1 8 Try.underlying25 hi hz0 hz1 hz2 rfl (by decide) _ i _ rfl ((own_drewN HOR.out _).alloc _) _ 1 1 [.int .i64 ((k : Int) + 1)] rfl rfl (news_one _ _ _) (by simp [Value.oneCell']) HC3.out HC4.out (Nat.le_trans HBR.out.size (by simp)) ?_)
              intro v' w2 hown hgrow hnil
              have HOW := Lib.hid hown; have HGR := Lib.hid hgrow; clear hown hgrow hnil
              go_wp2_with fail
              go_roundw
              case rel => exact ⟨i + 1, v', by omega, by go_num, rfl, HFIN.out _ _ HOW.out, Below.grown ((below_drewN HBR.out _).alloc HBR.out.size _) HGR.out (Nat.le_trans HBR.out.size (by simp)) (fun j hj => (HOR.out.lt j hj).1)⟩
              case measure => simp [intOf]; omega
            · have hd : decide (0 < (k : Int)) = false := by simp; omega
              go_wp2_with fail
              go_quiet (fail)
              go_wp2_with fail
              go_quiet (fail)
              go_wp2_with (at_builtin; refine wpList_append_own _ rfl _ _ 25 rfl w.heap.size 3 i0 (.int .i64 0) 1 8 Try.underlying25 hi hz0 hz1 hz2 rfl (by decide) _ i _ rfl ((own_drewN HOR.out _).alloc _) _ 1 1 [.int .i64 ((k : Int) + 1)] rfl rfl (news_one _ _ _) (by simp [Value.oneCell']) HC3.out HC4.out (Nat.le_trans HBR.out.size (by simp)) ?_)
              intro v' w2 hown hgrow hnil
              have HOW := Lib.hid hown; have HGR := Lib.hid hgrow; clear hown hgrow hnil
              go_wp2_with fail
              go_roundw
              case rel => exact ⟨i + 1, v', by omega, by go_num, rfl, HFIN.out _ _ HOW.out, Below.grown ((below_drewN HBR.out _).alloc HBR.out.size _) HGR.out (Nat.le_trans HBR.out.size (by simp)) (fun j hj => (HOR.out.lt j hj).1)⟩
              case measure => simp [intOf]; omega
          · have hne : ((s[k].toNat : Int) != (s[i].toNat : Int)) = true := by rw [bne_iff_ne]; rw [atS_eq s k hks, atS_eq s i hlt]; intro h; exact heq (UInt8.toNat_inj.1 (by omega))
            have hee : ((s[k].toNat : Int) == (s[i].toNat : Int)) = false := by rw [beq_eq_false_iff_ne]; rw [atS_eq s k hks, atS_eq s i hlt]; intro h; exact heq (UInt8.toNat_inj.1 (by omega))
            have z1 : (k : Int) < (s.size : Int) := by omega
            have z2 : (i : Int) < (s.size : Int) := by omega
            by_cases hkp : 0 < k
            · have hd : decide (0 < (k : Int)) = true := by simp; omega
              have h2 := HC.out (k - 1) (by omega)
              have hl2 := HLE.out (k - 1) (by omega)
              have hst : fb s bs (atS s i) f k = fb s bs (atS s i) (f - 1) (bs.getD (k - 1) 0) := by rw [show f = (f - 1) + 1 by omega, fb, if_pos ⟨hkp, heq⟩]; simp
              have HFS := Lib.hid (hst.symm.trans HF.out)
              clear hq0 hst heq HF
              generalize bs.getD (k - 1) 0 = k2 at *
              go_wp2_with fail
              go_quiet (fail)
              go_wp2_with fail
              go_roundw
              case rel => exact ⟨f - 1, k2, _, by omega, by omega, HFS.out, rfl, rfl⟩
              case measure => simp [intOf]; omega
            · have hex : fb s bs (atS s i) f k = k := by cases f with | zero => rfl | succ f => rw [fb, if_neg (by intro h; exact hkp h.1)]
              have hq := hq0 hex
              rw [if_neg heq] at hq
              have HFIN := Lib.hid (HSET.out k hq)
              have hd : decide (0 < (k : Int)) = false := by simp; omega
              clear hq0 hex hq heq HSET HF
              go_wp2_with fail
              go_quiet (fail)
              go_wp2_with fail
              go_quiet (fail)
              go_wp2_with (at_builtin; refine wpList_append_own _ rfl _ _ 25 rfl w.heap.size 3 i0 (.int .i64 0) 1 8 Try.underlying25 hi hz0 hz1 hz2 rfl (by decide) _ i _ rfl ((own_drewN HOR.out _).alloc _) _ 1 1 [.int .i64 ((k : Int))] rfl rfl (news_one _ _ _) (by simp [Value.oneCell']) HC3.out HC4.out (Nat.le_trans HBR.out.size (by simp)) ?_)
              intro v' w2 hown hgrow hnil
              have HOW := Lib.hid hown; have HGR := Lib.hid hgrow; clear hown hgrow hnil
              go_wp2_with fail
              go_roundw
              case rel => exact ⟨i + 1, v', by omega, by go_num, rfl, HFIN.out _ _ HOW.out, Below.grown ((below_drewN HBR.out _).alloc HBR.out.size _) HGR.out (Nat.le_trans HBR.out.size (by simp)) (fun j hj => (HOR.out.lt j hj).1)⟩
              case measure => simp [intOf]; omega
      · obtain rfl : i = 0 := by omega
        have HFIN : Hid (∀ (wx : World) (v : Value), wx.ownsRow w.heap.size 3 1 v 1 (ints (nats (bordL s 0)) ++ [.int .i64 0]) → wx.ownsRow w.heap.size 3 1 v 1 (ints (nats (bordL s 1)))) := fun wx v h => h
        go_wp2_with (at_builtin; refine wpList_append_own _ rfl _ _ 25 rfl w.heap.size 3 i0 (.int .i64 0) 1 8 Try.underlying25 hi hz0 hz1 hz2 rfl (by decide) _ 0 _ rfl (HOR.out.alloc _) _ 1 1 [.int .i64 (0)] rfl rfl (news_one _ _ _) (by simp [Value.oneCell']) HC3.out HC4.out (Nat.le_trans HBR.out.size (by simp)) ?_)
        intro v' w2 hown hgrow hnil
        have HOW := Lib.hid hown; have HGR := Lib.hid hgrow; clear hown hgrow hnil
        go_wp2_with fail
        go_roundw
        case rel => exact ⟨0 + 1, v', by omega, by go_num, rfl, HFIN.out _ _ HOW.out, Below.grown (HBR.out.alloc HBR.out.size _) HGR.out (Nat.le_trans HBR.out.size (by simp)) (fun j hj => (HOR.out.lt j hj).1)⟩
        case measure => simp [intOf]; omega
    · go_wp2_with fail
      go_ret
      obtain rfl : i = s.size := by omega
      exact ⟨_, rfl, by rw [nats_length, bordL_length]; exact HOR.out, HBR.out⟩
end Go.Proofs.Ytfkcchbbbfeamaa
