/- The contracts of LeafSum (the program's and the reference's): both give the same number of the text's bytes. -/
import Derived.Test.YtdhkagabkhepgaaBase
namespace Go.Proofs.Ytdhkagabkhepgaa
set_option linter.unusedVariables false
open Go.ChangeShapes Go.WideShapes Go.ChangeAt Go.RowKit

def leafStep (h : Int) (c : UInt8) : Int := (263 * h + (c.toNat : Int) + 1) % 1000003
def leaf (l : List UInt8) : Int := l.foldl leafStep 7

theorem leaf_bd (l : List UInt8) : 0 ≤ leaf l ∧ leaf l ≤ 1000002 := by
  unfold leaf
  have : ∀ (l : List UInt8) (h : Int), 0 ≤ h ∧ h ≤ 1000002 → 0 ≤ l.foldl leafStep h ∧ l.foldl leafStep h ≤ 1000002 := by
    intro l
    induction l with
    | nil => intro h hh; exact hh
    | cons c l ih => intro h hh; exact ih _ (by unfold leafStep; omega)
  exact this l 7 (by omega)

theorem leaf_snoc (s : ByteArray) (k : Nat) (h : k < s.size) : leaf (s.data.toList.take (k + 1)) = (263 * leaf (s.data.toList.take k) + (s[k].toNat : Int) + 1) % 1000003 := by
  rw [take_snoc s k h]; unfold leaf; rw [List.foldl_append]; rfl

set_option maxHeartbeats 400000 in
theorem spec_leaf (s : ByteArray) (w : World) (hs : s.size ≤ maxLen) :
    Calls Try.prog 13 #[.string s] w fun e w' => e = .returned (.int .i64 (leaf s.data.toList)) ∧ w = w' := by
  unfold maxLen at hs
  go_enter Try.func13, Try.ntmps13
  go_wp2
  go_loop [3, 4] (fun n i => ∃ k : Nat, k ≤ s.size ∧ i = .int .i64 k ∧ n = .int .i64 (leaf (s.data.toList.take k))) (fun _ i => s.size - (intOf i).toNat)
  case atStart => exact ⟨0, Nat.zero_le _, rfl, rfl⟩
  case round =>
    obtain ⟨k, hk, rfl, rfl⟩ := hrel
    have hd := leaf_bd (s.data.toList.take k)
    by_cases hlt : k < s.size
    · have H := Lib.hid (leaf_snoc s k hlt)
      have hb : (s[k].toNat : Int) ≤ 255 := byte_le _
      go_wp2
      go_round
      case rel => exact ⟨k + 1, by omega, by go_num, by rw [H.out]⟩
      case measure => simp [intOf]; omega
    · go_wp2
      go_ret
      exact ⟨ret_int (by rw [List.take_of_length_le (by simp; omega)]), rfl⟩

set_option maxHeartbeats 400000 in
theorem impl_leaf (s : ByteArray) (w : World) (hs : s.size ≤ maxLen) :
    Calls Try.prog 14 #[.string s] w fun e w' => e = .returned (.int .i64 (leaf s.data.toList)) ∧ w = w' := by
  unfold maxLen at hs
  go_enter Try.func14, Try.ntmps14
  go_wp2
  go_loop [3, 7] (fun n i => ∃ k : Nat, k ≤ s.size ∧ i = .int .i64 k ∧ n = .int .i64 (leaf (s.data.toList.take k))) (fun _ i => s.size - (intOf i).toNat)
  case atStart => exact ⟨0, Nat.zero_le _, rfl, rfl⟩
  case round =>
    obtain ⟨k, hk, rfl, rfl⟩ := hrel
    have hd := leaf_bd (s.data.toList.take k)
    by_cases hlt : k < s.size
    · have H := Lib.hid (leaf_snoc s k hlt)
      have hb : (s[k].toNat : Int) ≤ 255 := byte_le _
      go_wp2
      go_round
      case rel => exact ⟨k + 1, by omega, by go_num, by rw [H.out]⟩
      case measure => simp [intOf]; omega
    · go_wp2
      go_ret
      exact ⟨ret_int (by rw [List.take_of_length_le (by simp; omega)]), rfl⟩
end Go.Proofs.Ytdhkagabkhepgaa
