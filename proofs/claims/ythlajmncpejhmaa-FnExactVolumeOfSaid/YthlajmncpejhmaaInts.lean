/- The contracts of the laws' helpers over lists of numbers: how much they hold, a copy, whether two are alike, marks laid into one and looked for. -/
import Derived.Test.YthlajmncpejhmaaBase
namespace Go.Proofs.Ythlajmncpejhmaa
set_option linter.unusedVariables false
open Go.ChangeShapes Go.WideShapes Go.ChangeAt Go.RowKit

def szInts (l : Int) (n : Nat) : Int := if l - (n : Int) < 0 then -1 else l - n
/-- k, k + 1 and so on, n of them. -/
def marks (k : Int) (n : Nat) : List Int := (List.range n).map fun (i : Nat) => k + (i : Int)
@[simp] theorem marks_length (k : Int) (n : Nat) : (marks k n).length = n := by simp [marks]
theorem marks_at (k : Int) (n i : Nat) (h : i < n) : (ints (marks k n))[i]? = some (.int .i64 (k + i)) := by simp [ints, marks, h]

theorem ints_ne {xs : List Int} {k : Nat} (h : k < xs.length) : ints xs ≠ [] := by
  intro e; have := congrArg List.length e; simp at this; rw [this] at h; simp at h

theorem Try.infoInt : (Try.prog.info? 3).map (fun i => (i.zero, i.size, i.bytes)) = some (some (.int .i64 0), 1, 8) := by kernel_rfl

set_option maxHeartbeats 400000 in
theorem to_ints (a : Option Addr) (cap : Nat) (xs : List Int) (w : World) (hrow : Rw w a (ints xs)) (hn : xs.length ≤ 1048576) :
    Calls Try.prog 21 #[.slice a xs.length cap] w fun e w' => e = .returned (.slice (some ⟨w.heap.size, 0, none⟩) xs.length xs.length) ∧ w'.ownsRow w.heap.size 3 1 (.slice (some ⟨w.heap.size, 0, none⟩) xs.length xs.length) xs.length (ints xs) ∧ Below w.heap.size w w' := by
  obtain ⟨i0, hi, hz0, hz1, hz2⟩ := info_parts Try.infoInt
  go_enter Try.func21, Try.ntmps21
  go_wp2_with (refine wpList_make_full _ rfl _ _ _ rfl w.heap.size 3 i0 (.int .i64 0) 1 Try.underlying36 hi hz0 hz1 .i64 .i64 _ _ xs.length rfl rfl rfl rfl ?c1 ?c2 ?c3 ?_)
  case c1 => rw [hz2]; omega
  case c2 => unfold maxLen; omega
  case c3 => exact Nat.le_refl _
  intro w1 hown hgrow
  have hb : Below w.heap.size w w1 := (Below.refl _ _).grown hgrow (Nat.le_refl _) (by simp)
  have hsz : w.heap.size < w1.heap.size := (hown.lt w.heap.size rfl).2
  have hown' : w1.ownsRow w.heap.size 3 1 (.slice (some ⟨w.heap.size, 0, none⟩) xs.length xs.length) xs.length (fill (ints xs) (.int .i64 0) 0) := by
    rw [fill_zero, ints_length, ← toList_madeCells_one]; exact hown
  clear hown hgrow
  go_wp2
  go_loopw [4] (fun i wr => ∃ k : Nat, k ≤ xs.length ∧ i = .int .i64 k ∧ wr.ownsRow w.heap.size 3 1 (.slice (some ⟨w.heap.size, 0, none⟩) xs.length xs.length) xs.length (fill (ints xs) (.int .i64 0) k) ∧ Below w.heap.size w wr) (fun i _ => xs.length - (intOf i).toNat)
  case atStart => exact ⟨0, Nat.zero_le _, rfl, hown', hb⟩
  case round =>
    obtain ⟨k, hk, rfl, ho, hbr⟩ := hrel
    clear hown' hb hsz
    by_cases hlk : k < xs.length
    · obtain ⟨b, off, rfl, hbl, hc⟩ := hrow.at (ints_ne hlk)
      have hu := ints_at xs k hlk
      have hc1 : wr.cell? ⟨b, off + k, none⟩ = some (.int .i64 (xs.getD k 0)) := (hbr.cell (p := ⟨b, off + k, none⟩) hbl).trans (hc k _ hu)
      have hc2 : wr.cell? ⟨w.heap.size, k, none⟩ = some (.int .i64 0) := by rw [ho.cellAt k (by omega)]; exact fill_at _ _ _ _ (Nat.le_refl _) (by simpa using hlk)
      have hc3 := ho.frozenAt k
      have hst := ho.stored k (.int .i64 (xs.getD k 0))
      rw [fill_set _ _ _ _ hu] at hst
      have hb2 : Below w.heap.size w (wr.setCell ⟨w.heap.size, k, none⟩ (.int .i64 (xs.getD k 0))) := hbr.setCell (Nat.le_refl _) _
      clear hc hrow hu ho
      generalize xs.getD k 0 = s at *
      have HS := Lib.hid hst.1; clear hst
      go_wp2
      go_roundw
      case rel => exact ⟨k + 1, by omega, by go_num, HS.out, hb2⟩
      case measure => simp [intOf]; omega
    · go_wp2
      go_ret
      obtain rfl : k = xs.length := by omega
      have hf := fill_full (ints xs) (.int .i64 0)
      rw [ints_length] at hf
      rw [hf] at ho
      exact ⟨rfl, ho, hbr⟩

set_option maxHeartbeats 400000 in
theorem eq_ints (a b : Option Addr) (cap cap' : Nat) (xs : List Int) (w : World) (ha : Rw w a (ints xs)) (hb : Rw w b (ints xs)) (hn : xs.length ≤ 1048576) :
    Calls Try.prog 24 #[.slice a xs.length cap, .slice b xs.length cap'] w fun e w' => e = .returned (.bool true) ∧ Drawn w w' := by
  go_enter Try.func24, Try.ntmps24
  go_wp2
  go_loopw [5] (fun i wr => ∃ k : Nat, k ≤ xs.length ∧ i = .int .i64 k ∧ Drawn w wr) (fun i _ => xs.length - (intOf i).toNat)
  case atStart => exact ⟨0, Nat.zero_le _, rfl, Drawn.refl w⟩
  case round =>
    obtain ⟨k, hk, rfl, n, rfl⟩ := hrel
    by_cases hlk : k < xs.length
    · obtain ⟨b1, off1, rfl, hbl1, hc1⟩ := ha.at (ints_ne hlk)
      obtain ⟨b2, off2, rfl, hbl2, hc2⟩ := hb.at (ints_ne hlk)
      have hd1 := hc1 k _ (ints_at xs k hlk)
      have hd2 := hc2 k _ (ints_at xs k hlk)
      clear hc1 hc2 ha hb
      generalize xs.getD k 0 = s at *
      go_wp2
      go_quiet (fail)
      go_wp2
      go_roundw
      case rel => exact ⟨k + 1, by omega, by go_num, ⟨_, rfl⟩⟩
      case measure => simp [intOf]; omega
    · go_wp2
      go_ret
      exact ⟨rfl, n, rfl⟩

set_option maxHeartbeats 400000 in
theorem held_ints (a : Option Addr) (cap n : Nat) (k0 : Int) (w : World) (ha : Rw w a (ints (marks k0 n))) (hn : n ≤ 1099511627776) (h0 : 0 ≤ k0) (h1 : k0 ≤ 1099511627776) :
    Calls Try.prog 29 #[.slice a n cap, .int .i64 k0] w fun e w' => e = .returned (.int .i64 (k0 + n)) ∧ w = w' := by
  go_enter Try.func29, Try.ntmps29
  go_wp2
  go_loop [1, 5] (fun kv i => ∃ k : Nat, k ≤ n ∧ i = .int .i64 k ∧ kv = .int .i64 (k0 + k)) (fun _ i => n - (intOf i).toNat)
  case atStart => exact ⟨0, Nat.zero_le _, rfl, by simp⟩
  case round =>
    obtain ⟨k, hk, rfl, rfl⟩ := hrel
    by_cases hlk : k < n
    · obtain ⟨b1, off1, rfl, hbl1, hc1⟩ := ha.at (ints_ne (k := k) (by simpa using hlk))
      have hd1 := hc1 k _ (marks_at k0 n k hlk)
      clear hc1 ha
      go_wp2
      go_round
      case rel => exact ⟨k + 1, by omega, by go_num, by go_num⟩
      case measure => simp [intOf]; omega
    · go_wp2
      go_ret
      obtain rfl : k = n := by omega
      exact ⟨rfl, rfl⟩

theorem marks_set (k0 : Int) (xs : List Int) (k : Nat) (h : k < xs.length) :
    (ints (marks k0 k ++ xs.drop k)).set k (.int .i64 (k0 + k)) = ints (marks k0 (k + 1) ++ xs.drop (k + 1)) := by
  rw [List.drop_eq_getElem_cons h]
  generalize xs.drop (k + 1) = r
  generalize xs[k] = q
  simp [ints, marks, List.range_succ]

set_option maxHeartbeats 400000 in
theorem mark_ints (base : Nat) (v : Value) (xs : List Int) (k0 : Int) (w : World) (a : Option Addr) (cap : Nat) (hv : v = .slice a xs.length cap) (ha : w.ownsRow base 3 1 v xs.length (ints xs)) (hn : xs.length ≤ 1099511627776) (h0 : 0 ≤ k0) (h1 : k0 ≤ 1099511627776) :
    Calls Try.prog 28 #[v, .int .i64 k0] w fun e w' => e = .returned (.int .i64 (k0 + xs.length)) ∧ w'.ownsRow base 3 1 v xs.length (ints (marks k0 xs.length)) ∧ Wrote (fun k => v.ownBlock = some k) w w' := by
  subst hv
  go_enter Try.func28, Try.ntmps28
  go_wp2
  go_loopw [1, 5] (fun kv i wr => ∃ k : Nat, k ≤ xs.length ∧ i = .int .i64 k ∧ kv = .int .i64 (k0 + k) ∧ wr.ownsRow base 3 1 (.slice a xs.length cap) xs.length (ints (marks k0 k ++ xs.drop k)) ∧ Wrote (fun k => (Value.slice a xs.length cap).ownBlock = some k) w wr) (fun _ i _ => xs.length - (intOf i).toNat)
  case atStart => exact ⟨0, Nat.zero_le _, rfl, by simp, by simpa [marks] using ha, Wrote.refl _ _⟩
  case round =>
    obtain ⟨k, hk, rfl, rfl, ho, hwr⟩ := hrel
    by_cases hlk : k < xs.length
    · obtain ⟨g, rfl⟩ : ∃ g, a = some ⟨g, 0, none⟩ := by
        rcases ho.2 with ⟨_, h⟩ | ⟨g, _, _, h, _⟩
        · omega
        · cases h; exact ⟨g, rfl⟩
      have hlen : k < (ints (marks k0 k ++ xs.drop k)).length := by simp; omega
      have hc2 : wr.cell? ⟨g, k, none⟩ = some ((ints (marks k0 k ++ xs.drop k))[k]) := by rw [ho.cellAt k (by omega)]; exact List.getElem?_eq_getElem hlen
      have hc3 := ho.frozenAt k
      have hst := (ho.stored k (.int .i64 (k0 + k))).1
      rw [marks_set _ _ _ hlk] at hst
      have hw2 : Wrote (fun k => (Value.slice (some ⟨g, 0, none⟩) xs.length cap).ownBlock = some k) w (wr.setCell ⟨g, k, none⟩ (.int .i64 (k0 + k))) := hwr.setCell (p := ⟨g, k, none⟩) rfl _
      clear ho ha hwr
      generalize (ints (marks k0 k ++ xs.drop k))[k] = s at *
      have HS := Lib.hid hst; clear hst
      have HW := Lib.hid hw2; clear hw2
      go_wp2
      go_roundw
      case rel => exact ⟨k + 1, by omega, by go_num, by go_num, HS.out, HW.out⟩
      case measure => simp [intOf]; omega
    · go_wp2
      go_ret
      obtain rfl : k = xs.length := by omega
      rw [List.drop_length, List.append_nil] at ho
      exact ⟨rfl, ho, hwr⟩

end Go.Proofs.Ythlajmncpejhmaa
