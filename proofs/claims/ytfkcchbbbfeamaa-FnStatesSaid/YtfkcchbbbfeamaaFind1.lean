/- The order of what was found, and the contracts of the comparisons (cmp.Compare, cmp.Or, the closure that FindWords hands to the sort). -/
import Derived.Test.YtfkcchbbbfeamaaAuto2
import Derived.Test.YtfkcchbbbfeamaaSched
namespace Go.Proofs.Ytfkcchbbbfeamaa
set_option linter.unusedVariables false
open Go.ChangeShapes Go.WideShapes Go.ChangeAt Go.RowKit
set_option maxRecDepth 100000

abbrev Fd := Int × Int
def fds (o : List Fd) : List Value := (o.map fun p => [Value.int .i64 p.1, Value.int .i64 p.2]).flatten
def keyF (ws : List ByteArray) (x : Fd) : Int := x.1 + ((ws.getD x.2.toNat ByteArray.empty).size : Int)
def cmpI (a b : Int) : Int := if a < b then -1 else if a > b then 1 else 0
def orI (a b : Int) : Int := if a = 0 then b else a
def cmpF (ws : List ByteArray) (x y : Fd) : Int := orI (cmpI (keyF ws x) (keyF ws y)) (cmpI x.2 y.2)
/-- one that was found -/
def okF (ws : List ByteArray) (x : Fd) : Prop := 0 ≤ x.2 ∧ x.2 < ws.length ∧ -100 ≤ x.1 ∧ x.1 ≤ 1000
def leF (ws : List ByteArray) (x y : Fd) : Prop := keyF ws x < keyF ws y ∨ (keyF ws x = keyF ws y ∧ x.2 ≤ y.2)
theorem cmp_le {ws : List ByteArray} {x y : Fd} (h : leF ws x y) : 0 ≤ cmpF ws y x := by
  unfold cmpF orI cmpI
  rcases h with h | ⟨h1, h2⟩
  · rw [if_neg (show ¬ keyF ws y < keyF ws x by omega), if_pos h, if_neg (by decide)]; decide
  · rw [if_neg (show ¬ keyF ws y < keyF ws x by omega), if_neg (show ¬ keyF ws y > keyF ws x by omega), if_pos rfl]
    split
    · omega
    · split <;> decide
theorem fds_at {o : List Fd} {k : Nat} (h : k < o.length) : (fds o)[k * 2]? = some (.int .i64 (o.getD k (0, 0)).1) ∧ (fds o)[k * 2 + 1]? = some (.int .i64 (o.getD k (0, 0)).2) := by
  induction o generalizing k with
  | nil => simp at h
  | cons x r ih =>
    cases k with
    | zero => simp [fds]
    | succ k =>
      have hk : k < r.length := by simpa using h
      obtain ⟨h1, h2⟩ := ih hk
      unfold fds at *
      rw [List.map_cons, List.flatten_cons]
      refine ⟨?_, ?_⟩
      · rw [List.getElem?_append_right (by simp; omega), show (k + 1) * 2 - [Value.int .i64 x.1, Value.int .i64 x.2].length = k * 2 by simp; omega]
        simpa using h1
      · rw [List.getElem?_append_right (by simp; omega), show (k + 1) * 2 + 1 - [Value.int .i64 x.1, Value.int .i64 x.2].length = k * 2 + 1 by simp; omega]
        simpa using h2
theorem fds_len (o : List Fd) : (fds o).length = o.length * 2 := by
  induction o with
  | nil => rfl
  | cons x r ih => unfold fds at *; rw [List.map_cons, List.flatten_cons, List.length_append, ih]; simp; omega
theorem fds_app (o : List Fd) (x : Fd) : fds (o ++ [x]) = fds o ++ [.int .i64 x.1, .int .i64 x.2] := by simp [fds]
/-! ### what is found, is found in order -/
theorem found_end {ws : List ByteArray} {s : ByteArray} {e n : Nat} {x : Fd} (h : x ∈ foundAt ws s e n) (hn : n ≤ ws.length) : keyF ws x = (e : Int) ∧ 0 ≤ x.2 ∧ x.2 < n := by
  unfold foundAt at h
  obtain ⟨k, hk, rfl⟩ := List.mem_map.1 h
  obtain ⟨j, rfl, hj, _⟩ := ends_mem hk
  refine ⟨?_, by show (0 : Int) ≤ (j : Int); omega, by show (j : Int) < (n : Int); omega⟩
  unfold keyF
  simp only [Int.toNat_natCast]
  omega
theorem foundL_end {ws : List ByteArray} {s : ByteArray} : ∀ {e : Nat} {x : Fd}, x ∈ foundL ws s e → 1 ≤ keyF ws x ∧ keyF ws x ≤ e ∧ 0 ≤ x.2 ∧ x.2 < ws.length
  | 0, x, h => by simp [foundL] at h
  | e + 1, x, h => by
    rw [foundL] at h
    rcases List.mem_append.1 h with h | h
    · have := foundL_end h; omega
    · have := found_end h (Nat.le_refl _); omega
theorem ends_sorted (ws : List ByteArray) (t : ByteArray) (n : Nat) : (endsL ws t n).Pairwise (· < ·) := by
  unfold endsL
  rw [List.pairwise_map]
  exact (List.pairwise_lt_range.filter _).imp (fun h => by omega)
theorem foundL_sorted (ws : List ByteArray) (s : ByteArray) : ∀ e, (foundL ws s e).Pairwise (leF ws)
  | 0 => List.Pairwise.nil
  | e + 1 => by
    rw [foundL, List.pairwise_append]
    refine ⟨foundL_sorted ws s e, ?_, fun x hx y hy => ?_⟩
    · unfold foundAt
      rw [List.pairwise_map]
      refine (List.Pairwise.and_mem.1 (ends_sorted ws _ _)).imp ?_
      rintro a b ⟨ha, hb, hab⟩
      have h1 := (found_end (x := _) (List.mem_map.2 ⟨a, ha, rfl⟩ : _ ∈ foundAt ws s (e + 1) ws.length) (Nat.le_refl _)).1
      have h2 := (found_end (x := _) (List.mem_map.2 ⟨b, hb, rfl⟩ : _ ∈ foundAt ws s (e + 1) ws.length) (Nat.le_refl _)).1
      exact .inr ⟨by rw [h1, h2], by show a ≤ b; omega⟩
    · have h1 := foundL_end hx
      have h2 := found_end hy (Nat.le_refl _)
      exact .inl (by omega)
/-- behind a place none is less -/
theorem sorted_at {ws : List ByteArray} {o : List Fd} (h : o.Pairwise (leF ws)) {i j : Nat} (hij : i ≤ j) (hj : j < o.length) : leF ws (o.getD i (0, 0)) (o.getD j (0, 0)) := by
  rw [List.getD, List.getD, List.getElem?_eq_getElem hj, List.getElem?_eq_getElem (by omega)]
  simp only [Option.getD_some]
  rcases Nat.lt_or_ge i j with hl | hl
  · exact List.pairwise_iff_getElem.1 h i j (by omega) hj hl
  · have : i = j := by omega
    subst this
    exact .inr ⟨rfl, Int.le_refl _⟩
set_option maxHeartbeats 400000 in
theorem isNaN_int (x : Int) (w : World) : Calls Try.prog 78 #[.int .i64 x] w fun e w' => e = .returned (.bool false) ∧ w = w' := by
  have hx : (x != x) = false := by simp
  go_enter Try.func78, Try.ntmps78
  go_wp2_with fail
  go_ret
  exact ⟨rfl, rfl⟩
set_option maxHeartbeats 1000000 in
theorem compare_int (x y : Int) (w : World) : Calls Try.prog 69 #[.int .i64 x, .int .i64 y] w fun e w' => e = .returned (.int .i64 (cmpI x y)) ∧ w = w' := by
  have H := Lib.hid (fun z wx => isNaN_int z wx)
  unfold cmpI
  by_cases h1 : x < y
  · rw [if_pos h1]
    go_enter Try.func69, Try.ntmps69
    go_wp2_with fail
    refine (H.out _ _).mono ?_
    rintro e w' ⟨rfl, rfl⟩
    go_wp2_with fail
    refine (H.out _ _).mono ?_
    rintro e w' ⟨rfl, rfl⟩
    go_wp2_with fail
    go_ret
    exact ⟨rfl, rfl⟩
  · rw [if_neg h1]
    by_cases h2 : x > y
    · rw [if_pos h2]
      have h3 : y < x := h2
      go_enter Try.func69, Try.ntmps69
      go_wp2_with fail
      refine (H.out _ _).mono ?_
      rintro e w' ⟨rfl, rfl⟩
      go_wp2_with fail
      refine (H.out _ _).mono ?_
      rintro e w' ⟨rfl, rfl⟩
      go_wp2_with fail
      go_ret
      exact ⟨rfl, rfl⟩
    · rw [if_neg h2]
      have h3 : ¬ y < x := h2
      go_enter Try.func69, Try.ntmps69
      go_wp2_with fail
      refine (H.out _ _).mono ?_
      rintro e w' ⟨rfl, rfl⟩
      go_wp2_with fail
      refine (H.out _ _).mono ?_
      rintro e w' ⟨rfl, rfl⟩
      go_wp2_with fail
      go_ret
      exact ⟨rfl, rfl⟩
set_option maxHeartbeats 1000000 in
theorem or_one (b : Nat) (x y : Int) (w : World) (h0 : w.cell? ⟨b, 0, none⟩ = some (.int .i64 x)) (h1 : w.cell? ⟨b, 1, none⟩ = some (.int .i64 y)) (hx : (x != 0) = true) :
    Calls Try.prog 68 #[.slice (some ⟨b, 0, none⟩) 2 2] w fun e w' => e = .returned (.int .i64 (x)) ∧ w = w' := by
  go_enter Try.func68, Try.ntmps68
  go_wp2_with fail
  go_loop [8] (fun i => i = .int .i64 0) (fun i => 2 - (intOf i).toNat)
  case atStart => first | exact rfl | exact .inl rfl
  case round =>
    obtain rfl := hrel
    go_wp2_with fail
    go_ret
    exact ⟨rfl, rfl⟩
set_option maxHeartbeats 1000000 in
theorem or_two (b : Nat) (x y : Int) (w : World) (h0 : w.cell? ⟨b, 0, none⟩ = some (.int .i64 x)) (h1 : w.cell? ⟨b, 1, none⟩ = some (.int .i64 y)) (hx : (x != 0) = false) (hy : (y != 0) = true) :
    Calls Try.prog 68 #[.slice (some ⟨b, 0, none⟩) 2 2] w fun e w' => e = .returned (.int .i64 (y)) ∧ w = w' := by
  go_enter Try.func68, Try.ntmps68
  go_wp2_with fail
  go_loop [8] (fun i => i = .int .i64 0 ∨ i = .int .i64 1) (fun i => 2 - (intOf i).toNat)
  case atStart => first | exact rfl | exact .inl rfl
  case round =>
    rcases hrel with rfl | rfl
    · go_wp2_with fail
      go_round
      case rel => exact .inr rfl
      case measure => simp [intOf]
    · go_wp2_with fail
      go_ret
      exact ⟨rfl, rfl⟩
set_option maxHeartbeats 1000000 in
theorem or_none (b : Nat) (x y : Int) (w : World) (h0 : w.cell? ⟨b, 0, none⟩ = some (.int .i64 x)) (h1 : w.cell? ⟨b, 1, none⟩ = some (.int .i64 y)) (hx : (x != 0) = false) (hy : (y != 0) = false) :
    Calls Try.prog 68 #[.slice (some ⟨b, 0, none⟩) 2 2] w fun e w' => e = .returned (.int .i64 (0)) ∧ w = w' := by
  go_enter Try.func68, Try.ntmps68
  go_wp2_with fail
  go_loop [8] (fun i => i = .int .i64 0 ∨ i = .int .i64 1 ∨ i = .int .i64 2) (fun i => 2 - (intOf i).toNat)
  case atStart => first | exact rfl | exact .inl rfl
  case round =>
    rcases hrel with rfl | rfl | rfl
    · go_wp2_with fail
      go_round
      case rel => exact .inr (.inl rfl)
      case measure => simp [intOf]
    · go_wp2_with fail
      go_round
      case rel => exact .inr (.inr rfl)
      case measure => simp [intOf]
    · go_wp2_with fail
      go_ret
      exact ⟨rfl, rfl⟩
theorem or_int (b : Nat) (x y : Int) (w : World) (h0 : w.cell? ⟨b, 0, none⟩ = some (.int .i64 x)) (h1 : w.cell? ⟨b, 1, none⟩ = some (.int .i64 y)) :
    Calls Try.prog 68 #[.slice (some ⟨b, 0, none⟩) 2 2] w fun e w' => e = .returned (.int .i64 (orI x y)) ∧ w = w' := by
  unfold orI
  by_cases hx : x = 0
  · rw [if_pos hx]
    by_cases hy : y = 0
    · rw [hy]; rw [hy] at h1; exact or_none b x 0 w h0 h1 (by rw [hx]; rfl) rfl
    · exact or_two b x y w h0 h1 (by rw [hx]; rfl) (by simpa using hy)
  · rw [if_neg hx]; exact or_one b x y w h0 h1 (by simpa using hx)
end Go.Proofs.Ytfkcchbbbfeamaa
