/- The contracts of the laws' helpers over lists of numbers: how much they hold, a copy, whether two are alike, marks laid into one and looked for. -/
import Derived.Test.YtlmgckijbamgpaaBase
namespace Go.Proofs.Ytlmgckijbamgpaa
set_option linter.unusedVariables false
set_option linter.unusedSimpArgs false
open Go.ChangeShapes Go.WideShapes Go.ChangeAt Go.RowKit

def szInts (l : Int) (n : Nat) : Int := if l - (n : Int) < 0 then -1 else l - n
/-- k, k + 1 and so on, n of them. -/
def marks (k : Int) (n : Nat) : List Int := (List.range n).map fun (i : Nat) => k + (i : Int)
@[simp] theorem marks_length (k : Int) (n : Nat) : (marks k n).length = n := by simp [marks]
theorem marks_at (k : Int) (n i : Nat) (h : i < n) : (ints (marks k n))[i]? = some (.int .i64 (k + i)) := by simp [ints, marks, h]

theorem ints_ne {xs : List Int} {k : Nat} (h : k < xs.length) : ints xs ≠ [] := by
  intro e; have := congrArg List.length e; simp at this; rw [this] at h; simp at h

theorem Try.infoInt : (Try.prog.info? 3).map (fun i => (i.zero, i.size, i.bytes)) = some (some (.int .i64 0), 1, 8) := by kernel_rfl

set_option maxHeartbeats 400000 in
theorem eq_ints (a b : Option Addr) (cap cap' : Nat) (xs : List Int) (w : World) (ha : Rw w a (ints xs)) (hb : Rw w b (ints xs)) (hn : xs.length ≤ 1048576) :
    Calls Try.prog 12 #[.slice a xs.length cap, .slice b xs.length cap'] w fun e w' => e = .returned (.bool true) ∧ Drawn w w' := by
  go_enter Try.func12, Try.ntmps12
  go_wp2
  go_loopw [5] (fun i wr => ∃ k : Nat, k ≤ xs.length ∧ i = .int .i64 k ∧ Drawn w wr) (fun i _ => xs.length - (intOf i).toNat)
  case atStart => exact ⟨0, Nat.zero_le _, rfl, Drawn.refl w⟩
  case round =>
    obtain ⟨k, hk, rfl, n, rfl⟩ := hrel
    by_cases hlk : k < xs.length
    · obtain ⟨b1, off1, rfl, hbl1, hc1⟩ := ha.at (ints_ne hlk)
      obtain ⟨b2, off2, rfl, hbl2, hc2⟩ := hb.at (ints_ne hlk)
      have hd1 := hc1 k _ (ints_at xs k hlk)
      have hd2 := hc2 k _ (ints_at xs k hlk)
      clear hc1 hc2 ha hb
      generalize xs.getD k 0 = s at *
      go_wp2
      go_quiet (fail)
      go_wp2
      go_roundw
      case rel => exact ⟨k + 1, by omega, by go_num, ⟨_, rfl⟩⟩
      case measure => simp [intOf]; omega
    · go_wp2
      go_ret
      exact ⟨rfl, n, rfl⟩

set_option maxHeartbeats 400000 in
theorem held_ints (a : Option Addr) (cap n : Nat) (k0 : Int) (w : World) (ha : Rw w a (ints (marks k0 n))) (hn : n ≤ 1099511627776) (h0 : 0 ≤ k0) (h1 : k0 ≤ 1099511627776) :
    Calls Try.prog 16 #[.slice a n cap, .int .i64 k0] w fun e w' => e = .returned (.int .i64 (k0 + n)) ∧ w = w' := by
  go_enter Try.func16, Try.ntmps16
  go_wp2
  go_loop [1, 5] (fun kv i => ∃ k : Nat, k ≤ n ∧ i = .int .i64 k ∧ kv = .int .i64 (k0 + k)) (fun _ i => n - (intOf i).toNat)
  case atStart => exact ⟨0, Nat.zero_le _, rfl, by simp⟩
  case round =>
    obtain ⟨k, hk, rfl, rfl⟩ := hrel
    by_cases hlk : k < n
    · obtain ⟨b1, off1, rfl, hbl1, hc1⟩ := ha.at (ints_ne (k := k) (by simpa using hlk))
      have hd1 := hc1 k _ (marks_at k0 n k hlk)
      clear hc1 ha
      go_wp2
      go_round
      case rel => exact ⟨k + 1, by omega, by go_num, by go_num⟩
      case measure => simp [intOf]; omega
    · go_wp2
      go_ret
      obtain rfl : k = n := by omega
      exact ⟨rfl, rfl⟩

theorem marks_set (k0 : Int) (xs : List Int) (k : Nat) (h : k < xs.length) :
    (ints (marks k0 k ++ xs.drop k)).set k (.int .i64 (k0 + k)) = ints (marks k0 (k + 1) ++ xs.drop (k + 1)) := by
  rw [List.drop_eq_getElem_cons h]
  generalize xs.drop (k + 1) = r
  generalize xs[k] = q
  simp [ints, marks, List.range_succ]

set_option maxHeartbeats 400000 in
theorem mark_ints (base : Nat) (v : Value) (xs : List Int) (k0 : Int) (w : World) (a : Option Addr) (cap : Nat) (hv : v = .slice a xs.length cap) (ha : w.ownsRow base 3 1 v xs.length (ints xs)) (hn : xs.length ≤ 1099511627776) (h0 : 0 ≤ k0) (h1 : k0 ≤ 1099511627776) :
    Calls Try.prog 15 #[v, .int .i64 k0] w fun e w' => e = .returned (.int .i64 (k0 + xs.length)) ∧ w'.ownsRow base 3 1 v xs.length (ints (marks k0 xs.length)) ∧ Wrote (fun k => v.ownBlock = some k) w w' := by
  subst hv
  go_enter Try.func15, Try.ntmps15
  go_wp2
  go_loopw [1, 5] (fun kv i wr => ∃ k : Nat, k ≤ xs.length ∧ i = .int .i64 k ∧ kv = .int .i64 (k0 + k) ∧ wr.ownsRow base 3 1 (.slice a xs.length cap) xs.length (ints (marks k0 k ++ xs.drop k)) ∧ Wrote (fun k => (Value.slice a xs.length cap).ownBlock = some k) w wr) (fun _ i _ => xs.length - (intOf i).toNat)
  case atStart => exact ⟨0, Nat.zero_le _, rfl, by simp, by simpa [marks] using ha, Wrote.refl _ _⟩
  case round =>
    obtain ⟨k, hk, rfl, rfl, ho, hwr⟩ := hrel
    by_cases hlk : k < xs.length
    · obtain ⟨g, rfl⟩ : ∃ g, a = some ⟨g, 0, none⟩ := by
        rcases ho.2 with ⟨_, h⟩ | ⟨g, _, _, h, _⟩
        · omega
        · cases h; exact ⟨g, rfl⟩
      have hlen : k < (ints (marks k0 k ++ xs.drop k)).length := by simp; omega
      have hc2 : wr.cell? ⟨g, k, none⟩ = some ((ints (marks k0 k ++ xs.drop k))[k]) := by rw [ho.cellAt k (by omega)]; exact List.getElem?_eq_getElem hlen
      have hc3 := ho.frozenAt k
      have hst := (ho.stored k (.int .i64 (k0 + k))).1
      rw [marks_set _ _ _ hlk] at hst
      have hw2 : Wrote (fun k => (Value.slice (some ⟨g, 0, none⟩) xs.length cap).ownBlock = some k) w (wr.setCell ⟨g, k, none⟩ (.int .i64 (k0 + k))) := hwr.setCell (p := ⟨g, k, none⟩) rfl _
      clear ho ha hwr
      generalize (ints (marks k0 k ++ xs.drop k))[k] = s at *
      have HS := Lib.hid hst; clear hst
      have HW := Lib.hid hw2; clear hw2
      go_wp2
      go_roundw
      case rel => exact ⟨k + 1, by omega, by go_num, by go_num, HS.out, HW.out⟩
      case measure => simp [intOf]; omega
    · go_wp2
      go_ret
      obtain rfl : k = xs.length := by omega
      rw [List.drop_length, List.append_nil] at ho
      exact ⟨rfl, ho, hwr⟩

end Go.Proofs.Ytlmgckijbamgpaa
