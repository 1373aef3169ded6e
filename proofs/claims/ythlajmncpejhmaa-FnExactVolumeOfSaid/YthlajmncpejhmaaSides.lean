/- The contracts of the laws' helpers over rows of pairs (the sides of boxes). -/
import Derived.Test.YthlajmncpejhmaaInts
import Derived.Test.YthlajmncpejhmaaArgs
import Derived.Lib.SmallJoins
import Derived.Deep.RegionHeld3
namespace Go.Proofs.Ythlajmncpejhmaa
set_option linter.unusedVariables false
open Go.ChangeShapes Go.WideShapes Go.ChangeAt Go.RowKit
set_option maxRecDepth 100000

@[simp] theorem sds_length (xs : List (Int × Int)) : (sds xs).length = xs.length * 2 := by
  induction xs with
  | nil => rfl
  | cons x r ih => simp only [sds, List.map_cons, List.flatten_cons, List.length_append, List.length_cons] at *; rw [ih]; simp; omega
theorem sds_cons (x : Int × Int) (r : List (Int × Int)) : sds (x :: r) = .int .i64 x.1 :: .int .i64 x.2 :: sds r := rfl
theorem sds_lo : ∀ (xs : List (Int × Int)) (i : Nat), i < xs.length → (sds xs)[i * 2]? = some (.int .i64 (xs.getD i (0, 0)).1)
  | [], i, h => by simp at h
  | x :: r, 0, h => rfl
  | x :: r, i + 1, h => by
    rw [sds_cons, show (i + 1) * 2 = i * 2 + 1 + 1 by omega, List.getElem?_cons_succ, List.getElem?_cons_succ, sds_lo r i (by simpa using h)]; rfl
theorem sds_hi : ∀ (xs : List (Int × Int)) (i : Nat), i < xs.length → (sds xs)[i * 2 + 1]? = some (.int .i64 (xs.getD i (0, 0)).2)
  | [], i, h => by simp at h
  | x :: r, 0, h => rfl
  | x :: r, i + 1, h => by
    rw [sds_cons, show (i + 1) * 2 + 1 = i * 2 + 1 + 1 + 1 by omega, List.getElem?_cons_succ, List.getElem?_cons_succ, sds_hi r i (by simpa using h)]; rfl
theorem sds_ne {xs : List (Int × Int)} {k : Nat} (h : k < xs.length) : sds xs ≠ [] := by
  intro e; have := congrArg List.length e; simp at this; omega
theorem sds_snoc (xs : List (Int × Int)) (x : Int × Int) : sds (xs ++ [x]) = sds xs ++ [.int .i64 x.1, .int .i64 x.2] := by simp [sds]

theorem below_3 (w : World) (o1 o2 o3 : Obj) : Below w.heap.size w (((w.alloc o1).alloc o2).alloc o3) :=
  (((Below.refl _ _).alloc (Nat.le_refl _) _).alloc (by simp) _).alloc (by simp; omega) _
theorem toList_madeCells_two (z : Value) (n : Nat) : (madeCells #[z, z] (n * 2)).toList = List.replicate (n * 2) z := by
  apply List.ext_getElem?
  intro i
  by_cases hi : i < n * 2
  · have h2 : i % 2 = 0 ∨ i % 2 = 1 := by omega
    rcases h2 with h2 | h2 <;> simp [madeCells, hi, h2]
  · simp [madeCells, hi]

theorem Try.infoSide : (Try.prog.info? 64).map (fun i => (i.zero, i.size, i.bytes)) = some (some (.agg #[.int .i64 0, .int .i64 0]), 2, 16) := by kernel_rfl

theorem fill_length (L : List Value) (z : Value) (k : Nat) (h : k ≤ L.length) : (fill L z k).length = L.length := by simp [fill]; omega

set_option maxHeartbeats 400000 in
theorem sz_sides (a : Option Addr) (cap n : Nat) (l : Int) (w : World) (hn : n ≤ maxLen) (h0 : 0 ≤ l) (h1 : l ≤ 1048576) :
    Calls Try.prog 42 #[.slice a n cap, .int .i64 l] w fun e w' => e = .returned (.int .i64 (szInts l n)) ∧ w = w' := by
  unfold maxLen at hn
  by_cases hlt : l - (n : Int) < 0
  · have hfin : szInts l n = -1 := by unfold szInts; rw [if_pos hlt]
    have H := Lib.hid hfin; clear hfin
    go_enter Try.func42, Try.ntmps42
    go_wp2
    go_ret
    exact ⟨ret_int H.out.symm, rfl⟩
  · have hfin : szInts l n = l - n := by unfold szInts; rw [if_neg hlt]
    have H := Lib.hid hfin; clear hfin
    go_enter Try.func42, Try.ntmps42
    go_wp2
    go_ret
    exact ⟨ret_int H.out.symm, rfl⟩

set_option maxHeartbeats 400000 in
theorem eq_side (p : Int × Int) (w : World) : Calls Try.prog 68 #[.agg #[.int .i64 p.1, .int .i64 p.2], .agg #[.int .i64 p.1, .int .i64 p.2]] w fun e w' => e = .returned (.bool true) ∧ Below w.heap.size w w' := by
  obtain ⟨x, y⟩ := p
  go_enter Try.func68, Try.ntmps68
  go_wp2_with fail
  go_ret
  exact ⟨rfl, ((Below.refl _ _).alloc (Nat.le_refl _) _).alloc (by simp) _⟩

set_option maxHeartbeats 400000 in
theorem to_side (p : Int × Int) (w : World) : Calls Try.prog 67 #[.agg #[.int .i64 p.1, .int .i64 p.2]] w fun e w' => e = .returned (.agg #[.int .i64 p.1, .int .i64 p.2]) ∧ Below w.heap.size w w' := by
  obtain ⟨x, y⟩ := p
  go_enter Try.func67, Try.ntmps67
  go_wp2_with fail
  refine bodyPost_ret (v := .agg #[.int .i64 x, .int .i64 y]) (by simp [results, Try.results67, go_sem]) rfl ⟨rfl, ?_⟩
  exact below_3 _ _ _ _

set_option maxHeartbeats 1000000 in
theorem to_sides (a : Option Addr) (cap : Nat) (xs : List (Int × Int)) (w : World) (hrow : Rw w a (sds xs)) (hn : xs.length ≤ 1048576) :
    Calls Try.prog 43 #[.slice a xs.length cap] w fun e w' => e = .returned (.slice (some ⟨w.heap.size, 0, none⟩) xs.length xs.length) ∧ w'.ownsRow w.heap.size 64 2 (.slice (some ⟨w.heap.size, 0, none⟩) xs.length xs.length) xs.length (sds xs) ∧ Below w.heap.size w w' := by
  obtain ⟨i0, hi, hz0, hz1, hz2⟩ := info_parts Try.infoSide
  go_enter Try.func43, Try.ntmps43
  go_wp2_with (refine wpList_make_full _ rfl _ _ _ rfl w.heap.size 64 i0 (.agg #[.int .i64 0, .int .i64 0]) 2 Try.underlying26 hi hz0 hz1 .i64 .i64 _ _ xs.length rfl rfl rfl rfl ?c1 ?c2 ?c3 ?_)
  case c1 => rw [hz2]; omega
  case c2 => unfold maxLen; omega
  case c3 => exact Nat.le_refl _
  intro w1 hown hgrow
  have hb : Below w.heap.size w w1 := (Below.refl _ _).grown hgrow (Nat.le_refl _) (by simp)
  have hown' : w1.ownsRow w.heap.size 64 2 (.slice (some ⟨w.heap.size, 0, none⟩) xs.length xs.length) xs.length (fill (sds xs) (.int .i64 0) (0 * 2)) := by
    rw [Nat.zero_mul, fill_zero, sds_length, ← toList_madeCells_two]; exact hown
  have HO := Lib.hid hown'; have HB := Lib.hid hb
  clear hown hgrow hown' hb
  go_wp2
  go_loopw [4] (fun i wr => ∃ k : Nat, k ≤ xs.length ∧ i = .int .i64 k ∧ Hid (wr.ownsRow w.heap.size 64 2 (.slice (some ⟨w.heap.size, 0, none⟩) xs.length xs.length) xs.length (fill (sds xs) (.int .i64 0) (k * 2))) ∧ Hid (Below w.heap.size w wr)) (fun i _ => xs.length - (intOf i).toNat)
  case atStart => exact ⟨0, Nat.zero_le _, rfl, HO, HB⟩
  case round =>
    obtain ⟨k, hk, rfl, HOR, HBR⟩ := hrel
    clear HO HB
    by_cases hlk : k < xs.length
    · obtain ⟨b, off, rfl, hbl, hc⟩ := hrow.at (sds_ne hlk)
      have hu1 := sds_lo xs k hlk
      have hu2 := sds_hi xs k hlk
      have c1 : wr.cell? ⟨b, off + k * 2, none⟩ = some (.int .i64 (xs.getD k (0, 0)).1) := (HBR.out.cell (p := ⟨b, off + k * 2, none⟩) hbl).trans (hc _ _ hu1)
      have c2 : wr.cell? ⟨b, off + (k * 2 + 1), none⟩ = some (.int .i64 (xs.getD k (0, 0)).2) := (HBR.out.cell (p := ⟨b, off + (k * 2 + 1), none⟩) hbl).trans (hc _ _ hu2)
      have c2' : wr.cell? ⟨b, off + k * 2 + 1, none⟩ = some (.int .i64 (xs.getD k (0, 0)).2) := c2
      have HT := Lib.hid (to_side (xs.getD k (0, 0)))
      have HROW := Lib.hid hrow
      have HFILL : Hid (((fill (sds xs) (.int .i64 0) (k * 2)).set (k * 2) (.int .i64 (xs.getD k (0, 0)).1)).set (k * 2 + 1) (.int .i64 (xs.getD k (0, 0)).2) = fill (sds xs) (.int .i64 0) ((k + 1) * 2)) := by
        rw [fill_set _ _ _ _ hu1, fill_set _ _ _ _ hu2]; rw [show (k + 1) * 2 = k * 2 + 1 + 1 by omega]; exact Lib.hid rfl
      clear hc hrow hu1 hu2
      generalize xs.getD k (0, 0) = p at *
      obtain ⟨x, y⟩ := p
      go_wp2_with fail
      refine (HT.out _).mono ?_
      rintro e w2 ⟨rfl, hb2⟩
      have ho2 := own_later HOR.out hb2
      have hl2 : (k * 2) + 1 < (fill (sds xs) (.int .i64 0) (k * 2)).length := by rw [fill_length _ _ _ (by simp; omega)]; simp; omega
      have d1 : w2.cell? ⟨w.heap.size, k * 2, none⟩ = some ((fill (sds xs) (.int .i64 0) (k * 2))[k * 2]'(by omega)) := by rw [ho2.cellAt (k * 2) (by omega)]; exact List.getElem?_eq_getElem _
      have d2 : w2.cell? ⟨w.heap.size, k * 2 + 1, none⟩ = some ((fill (sds xs) (.int .i64 0) (k * 2))[k * 2 + 1]'(by omega)) := by rw [ho2.cellAt (k * 2 + 1) (by omega)]; exact List.getElem?_eq_getElem _
      have f1 := ho2.frozenAt (k * 2)
      have f2 := ho2.frozenAt (k * 2 + 1)
      have HB2 := Lib.hid (HBR.out.trans (hb2.mono HBR.out.size)); have HO2 := Lib.hid ho2
      clear hb2 ho2
      generalize (fill (sds xs) (.int .i64 0) (k * 2))[k * 2]'(by omega) = q1 at *
      generalize (fill (sds xs) (.int .i64 0) (k * 2))[k * 2 + 1]'(by omega) = q2 at *
      have hst := ((HO2.out.stored (k * 2) (.int .i64 x)).1.stored (k * 2 + 1) (.int .i64 y)).1
      rw [HFILL.out] at hst
      have HST := Lib.hid hst; have HBS := Lib.hid ((HB2.out.setCell (p := ⟨w.heap.size, k * 2, none⟩) (Nat.le_refl _) (.int .i64 x)).setCell (p := ⟨w.heap.size, k * 2 + 1, none⟩) (Nat.le_refl _) (.int .i64 y))
      clear hst
      go_wp2_with fail
      go_roundw
      case rel => exact ⟨k + 1, by omega, by go_num, HST.out, HBS.out⟩
      case measure => simp [intOf]; omega
    · go_wp2
      go_ret
      obtain rfl : k = xs.length := by omega
      have hf := fill_full (sds xs) (.int .i64 0)
      rw [sds_length] at hf
      have ho := HOR.out
      rw [hf] at ho
      exact ⟨rfl, ho, HBR.out⟩

set_option maxHeartbeats 1000000 in
theorem eq_sides (a b : Option Addr) (cap cap' : Nat) (xs : List (Int × Int)) (w : World) (ha : Rw w a (sds xs)) (hb : Rw w b (sds xs)) (hn : xs.length ≤ 1048576) :
    Calls Try.prog 44 #[.slice a xs.length cap, .slice b xs.length cap'] w fun e w' => e = .returned (.bool true) ∧ Below w.heap.size w w' := by
  go_enter Try.func44, Try.ntmps44
  go_wp2
  go_loopw [5] (fun i wr => ∃ k : Nat, k ≤ xs.length ∧ i = .int .i64 k ∧ Hid (Below w.heap.size w wr)) (fun i _ => xs.length - (intOf i).toNat)
  case atStart => exact ⟨0, Nat.zero_le _, rfl, Below.refl _ _⟩
  case round =>
    obtain ⟨k, hk, rfl, HBR⟩ := hrel
    by_cases hlk : k < xs.length
    · obtain ⟨b1, off1, rfl, hbl1, hc1⟩ := ha.at (sds_ne hlk)
      obtain ⟨b2, off2, rfl, hbl2, hc2⟩ := hb.at (sds_ne hlk)
      have c1 := (HBR.out.cell (p := ⟨b1, off1 + k * 2, none⟩) hbl1).trans (hc1 _ _ (sds_lo xs k hlk))
      have c2 : wr.cell? ⟨b1, off1 + k * 2 + 1, none⟩ = _ := (HBR.out.cell (p := ⟨b1, off1 + (k * 2 + 1), none⟩) hbl1).trans (hc1 _ _ (sds_hi xs k hlk))
      have c3 := (HBR.out.cell (p := ⟨b2, off2 + k * 2, none⟩) hbl2).trans (hc2 _ _ (sds_lo xs k hlk))
      have c4 : wr.cell? ⟨b2, off2 + k * 2 + 1, none⟩ = _ := (HBR.out.cell (p := ⟨b2, off2 + (k * 2 + 1), none⟩) hbl2).trans (hc2 _ _ (sds_hi xs k hlk))
      have HA := Lib.hid ha; have HB := Lib.hid hb
      have HE := Lib.hid (eq_side (xs.getD k (0, 0)))
      have l1 : b1 < wr.heap.size := Nat.lt_of_lt_of_le hbl1 HBR.out.size
      have l2 : b2 < wr.heap.size := Nat.lt_of_lt_of_le hbl2 HBR.out.size
      clear hc1 hc2 ha hb
      generalize xs.getD k (0, 0) = p at *
      obtain ⟨x, y⟩ := p
      have z0 : (0 : Int) ≤ (k : Int) := Int.natCast_nonneg _
      have z1 : (k : Int) < (xs.length : Int) := by omega
      go_wp2
      go_region_held3 (fun w' => w'.cell? ⟨b1, off1 + k * 2, none⟩ = some (.int .i64 x) ∧ w'.cell? ⟨b1, off1 + k * 2 + 1, none⟩ = some (.int .i64 y) ∧ w'.cell? ⟨b2, off2 + k * 2, none⟩ = some (.int .i64 x) ∧ w'.cell? ⟨b2, off2 + k * 2 + 1, none⟩ = some (.int .i64 y)) ((first | exact ⟨c1, c2, c3, c4⟩ | exact ⟨(HB2.out.cell (p := ⟨b1, off1 + k * 2, none⟩) l1).trans c1, (HB2.out.cell (p := ⟨b1, off1 + k * 2 + 1, none⟩) l1).trans c2, (HB2.out.cell (p := ⟨b2, off2 + k * 2, none⟩) l2).trans c3, (HB2.out.cell (p := ⟨b2, off2 + k * 2 + 1, none⟩) l2).trans c4⟩)) ((go_at_call 68; refine (HE.out _).mono ?_; rintro e w2 ⟨rfl, hb2⟩; have HB2 := Lib.hid (below_undrew hb2); clear hb2))
      go_wp2
      go_roundw
      case rel => exact ⟨k + 1, by omega, by go_num, HBR.out.trans (HB2.out.mono HBR.out.size)⟩
      case measure => simp [intOf]; omega
    · go_wp2
      go_ret
      exact ⟨rfl, HBR.out⟩

def pmarks (k : Int) (n : Nat) : List (Int × Int) := (List.range n).map fun (i : Nat) => (k + 2 * (i : Int), k + 2 * (i : Int) + 1)
@[simp] theorem pmarks_length (k : Int) (n : Nat) : (pmarks k n).length = n := by simp [pmarks]
theorem pmarks_at (k : Int) (n i : Nat) (h : i < n) : (pmarks k n).getD i (0, 0) = (k + 2 * (i : Int), k + 2 * (i : Int) + 1) := by simp [pmarks, h]
theorem sds_app (xs ys : List (Int × Int)) : sds (xs ++ ys) = sds xs ++ sds ys := by simp [sds]
theorem pmarks_set (k0 : Int) (xs : List (Int × Int)) (k : Nat) (h : k < xs.length) :
    ((sds (pmarks k0 k ++ xs.drop k)).set (k * 2) (.int .i64 (k0 + 2 * (k : Int)))).set (k * 2 + 1) (.int .i64 (k0 + 2 * (k : Int) + 1)) = sds (pmarks k0 (k + 1) ++ xs.drop (k + 1)) := by
  rw [List.drop_eq_getElem_cons h]
  generalize xs.drop (k + 1) = r
  generalize xs[k] = q
  have hp : pmarks k0 (k + 1) = pmarks k0 k ++ [(k0 + 2 * (k : Int), k0 + 2 * (k : Int) + 1)] := by simp [pmarks, List.range_succ]
  have hl : (sds (pmarks k0 k)).length = k * 2 := by simp
  rw [hp, sds_app, sds_app, sds_app, sds_cons, List.set_append_right _ _ (by omega), hl, Nat.sub_self, List.set_cons_zero, List.set_append_right _ _ (by omega), hl, show k * 2 + 1 - k * 2 = 0 + 1 by omega, List.set_cons_succ, List.set_cons_zero]
  simp [sds]

set_option maxHeartbeats 1000000 in
theorem held_sides (a : Option Addr) (cap n : Nat) (k0 : Int) (w : World) (ha : Rw w a (sds (pmarks k0 n))) (hn : n ≤ 1099511627776) (h0 : 0 ≤ k0) (h1 : k0 ≤ 1099511627776) :
    Calls Try.prog 46 #[.slice a n cap, .int .i64 k0] w fun e w' => e = .returned (.int .i64 (k0 + 2 * (n : Int))) ∧ w = w' := by
  go_enter Try.func46, Try.ntmps46
  go_wp2
  go_loop [1, 5] (fun kv i => ∃ k : Nat, k ≤ n ∧ i = .int .i64 k ∧ kv = .int .i64 (k0 + 2 * (k : Int))) (fun _ i => n - (intOf i).toNat)
  case atStart => exact ⟨0, Nat.zero_le _, rfl, by simp⟩
  case round =>
    obtain ⟨k, hk, rfl, rfl⟩ := hrel
    by_cases hlk : k < n
    · obtain ⟨b1, off1, rfl, hbl1, hc1⟩ := ha.at (sds_ne (k := k) (by simpa using hlk))
      have d1 := hc1 _ _ (sds_lo (pmarks k0 n) k (by simpa using hlk))
      have d2 : w.cell? ⟨b1, off1 + k * 2 + 1, none⟩ = _ := hc1 _ _ (sds_hi (pmarks k0 n) k (by simpa using hlk))
      rw [pmarks_at k0 n k hlk] at d1 d2
      simp only at d1 d2
      clear hc1 ha
      go_wp2
      go_round
      case rel => exact ⟨k + 1, by omega, by go_num, by go_num⟩
      case measure => simp [intOf]; omega
    · go_wp2
      go_ret
      obtain rfl : k = n := by omega
      exact ⟨rfl, rfl⟩

set_option maxHeartbeats 1000000 in
theorem mark_sides (base : Nat) (v : Value) (xs : List (Int × Int)) (k0 : Int) (w : World) (a : Option Addr) (cap : Nat) (hv : v = .slice a xs.length cap) (ha : w.ownsRow base 64 2 v xs.length (sds xs)) (hn : xs.length ≤ 1099511627776) (h0 : 0 ≤ k0) (h1 : k0 ≤ 1099511627776) :
    Calls Try.prog 45 #[v, .int .i64 k0] w fun e w' => e = .returned (.int .i64 (k0 + 2 * (xs.length : Int))) ∧ w'.ownsRow base 64 2 v xs.length (sds (pmarks k0 xs.length)) ∧ Wrote (fun k => v.ownBlock = some k) w w' := by
  subst hv
  go_enter Try.func45, Try.ntmps45
  go_wp2
  go_loopw [1, 5] (fun kv i wr => ∃ k : Nat, k ≤ xs.length ∧ i = .int .i64 k ∧ kv = .int .i64 (k0 + 2 * (k : Int)) ∧ wr.ownsRow base 64 2 (.slice a xs.length cap) xs.length (sds (pmarks k0 k ++ xs.drop k)) ∧ Wrote (fun k => (Value.slice a xs.length cap).ownBlock = some k) w wr) (fun _ i _ => xs.length - (intOf i).toNat)
  case atStart => exact ⟨0, Nat.zero_le _, rfl, by simp, by simpa [pmarks] using ha, Wrote.refl _ _⟩
  case round =>
    obtain ⟨k, hk, rfl, rfl, ho, hwr⟩ := hrel
    by_cases hlk : k < xs.length
    · obtain ⟨g, rfl⟩ : ∃ g, a = some ⟨g, 0, none⟩ := by
        rcases ho.2 with ⟨_, h⟩ | ⟨g, _, _, h, _⟩
        · omega
        · cases h; exact ⟨g, rfl⟩
      have hlen : k * 2 + 1 < (sds (pmarks k0 k ++ xs.drop k)).length := by simp; omega
      have d1 : wr.cell? ⟨g, k * 2, none⟩ = some ((sds (pmarks k0 k ++ xs.drop k))[k * 2]'(by omega)) := by rw [ho.cellAt (k * 2) (by omega)]; exact List.getElem?_eq_getElem _
      have d2 : wr.cell? ⟨g, k * 2 + 1, none⟩ = some ((sds (pmarks k0 k ++ xs.drop k))[k * 2 + 1]'(by omega)) := by rw [ho.cellAt (k * 2 + 1) (by omega)]; exact List.getElem?_eq_getElem _
      have f1 := ho.frozenAt (k * 2)
      have f2 := ho.frozenAt (k * 2 + 1)
      have hst := ((ho.stored (k * 2) (.int .i64 (k0 + 2 * (k : Int)))).1.stored (k * 2 + 1) (.int .i64 (k0 + 2 * (k : Int) + 1))).1
      rw [pmarks_set _ _ _ hlk] at hst
      have hw2 : Wrote (fun k => (Value.slice (some ⟨g, 0, none⟩) xs.length cap).ownBlock = some k) w ((wr.setCell ⟨g, k * 2, none⟩ (.int .i64 (k0 + 2 * (k : Int)))).setCell ⟨g, k * 2 + 1, none⟩ (.int .i64 (k0 + 2 * (k : Int) + 1))) := (hwr.setCell (p := ⟨g, k * 2, none⟩) rfl _).setCell (p := ⟨g, k * 2 + 1, none⟩) rfl _
      clear ho ha hwr
      generalize (sds (pmarks k0 k ++ xs.drop k))[k * 2]'(by omega) = s1 at *
      generalize (sds (pmarks k0 k ++ xs.drop k))[k * 2 + 1]'(by omega) = s2 at *
      have HS := Lib.hid hst; clear hst
      have HW := Lib.hid hw2; clear hw2
      go_wp2
      go_roundw
      case rel => exact ⟨k + 1, by omega, by go_num, by go_num, HS.out, HW.out⟩
      case measure => simp [intOf]; omega
    · go_wp2
      go_ret
      obtain rfl : k = xs.length := by omega
      rw [List.drop_length, List.append_nil] at ho
      exact ⟨rfl, ho, hwr⟩

end Go.Proofs.Ythlajmncpejhmaa
