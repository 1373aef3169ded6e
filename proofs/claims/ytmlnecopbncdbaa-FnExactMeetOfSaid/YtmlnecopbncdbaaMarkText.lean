/- The contract of the laws' markText: the text of a number's digits; marks laid into a list of texts, and looked for. -/
import Derived.Test.YtmlnecopbncdbaaStrs
import Derived.Laws.BytesArg
namespace Go.Proofs.Ytmlnecopbncdbaa
set_option linter.unusedVariables false
set_option linter.unusedSimpArgs false
open Go.ChangeShapes Go.WideShapes Go.ChangeAt Go.RowKit

def dig1 (n : Int) : ByteArray := strOfNums [n]
theorem dig1_size (n : Int) : (dig1 n).size = 1 := by simp [dig1, strOfNums]; rfl
theorem cell_one_at (w : World) (n : Int) (i : Nat) (hi : i < 1) : (w.alloc (.cells #[.int .u8 n] 5)).cell? ⟨w.heap.size, 0 + i, none⟩ = some (.int .u8 ([n].getD i 0)) := by
  obtain rfl : i = 0 := by omega
  simp
theorem conv_byte (w : World) (n : Int) : (convert 35 9 (.slice (some ⟨w.heap.size, 0, none⟩) 1 1)).run Try.prog (w.alloc (.cells #[.int .u8 n] 5)) = .ok (.string (dig1 n)) (w.alloc (.cells #[.int .u8 n] 5)) :=
  run_convert_bytes_arg _ 35 5 Try.underlying35 Try.underlying5 w.heap.size 0 1 1 [n] rfl (fun i hi => cell_one_at w n i hi) 9 Try.underlying9

def mtS : Nat → Nat → ByteArray → ByteArray
  | 0, _, s => s
  | f + 1, k, s => if k = 0 then s else mtS f (k / 10) (dig1 (48 + (k : Int) % 10) ++ s)
def mt (k : Nat) : ByteArray := { data := #[109] } ++ mtS k k ByteArray.empty

set_option maxRecDepth 100000 in
set_option maxHeartbeats 1000000 in
theorem mark_text (k : Nat) (w : World) (hk : 1 ≤ k) (hk2 : k ≤ 1099511627776) :
    Calls Try.prog 74 #[.int .i64 (k : Int)] w fun e w' => e = .returned (.string (mt k)) ∧ Below w.heap.size w w' := by
  have hconv := conv_byte
  go_enter Try.func74, Try.ntmps74
  go_wp2_with fail
  go_loopw [0, 3] (fun kv ov wr => ∃ (f j : Nat) (s : ByteArray), j ≤ f ∧ s.size + j ≤ k ∧ Hid (mtS f j s = mtS k k ByteArray.empty) ∧ kv = .int .i64 (j : Int) ∧ ov = .string s ∧ Below w.heap.size w wr) (fun kv _ _ => (intOf kv).toNat)
  case atStart => exact ⟨k, k, ByteArray.empty, by omega, by simp, rfl, rfl, rfl, Below.refl _ _⟩
  case round =>
    obtain ⟨f, j, s, hj, hs, HS, rfl, rfl, hb⟩ := hrel
    by_cases h0 : 0 < j
    · have HB := Lib.hid hb; clear hb
      have hsz := dig1_size (48 + (j : Int) % 10)
      have HSZ := Lib.hid hsz
      have hsz1 : (dig1 (48 + (j : Int) % 10)).size ≤ 1 := by omega
      have hss : s.size ≤ 1099511627776 := by omega
      clear hsz
      go_wp2_with fail
      go_roundw
      case rel => exact ⟨f - 1, j / 10, dig1 (48 + (j : Int) % 10) ++ s, by omega, (by rw [ByteArray.size_append, HSZ.out]; omega), (by have h1 := HS.out; rw [show f = (f - 1) + 1 by omega, mtS, if_neg (by omega)] at h1; exact h1), by go_num, rfl, HB.out.alloc HB.out.size _⟩
      case measure => simp [intOf]; omega
    · have HB := Lib.hid hb; clear hb
      go_wp2_with fail
      go_ret
      refine ⟨?_, HB.out⟩
      have h1 := HS.out
      obtain rfl : j = 0 := by omega
      have h2 : mtS f 0 s = s := by cases f <;> simp [mtS]
      rw [h2] at h1
      rw [mt, ← h1]
      rfl
def mtRow (k n : Nat) : List ByteArray := (List.range n).map fun i => mt (k + i)
@[simp] theorem mtRow_length (k n : Nat) : (mtRow k n).length = n := by simp [mtRow]
theorem mtRow_set (k0 : Nat) (xs : List ByteArray) (k : Nat) (h : k < xs.length) :
    (strs (mtRow k0 k ++ xs.drop k)).set k (.string (mt (k0 + k))) = strs (mtRow k0 (k + 1) ++ xs.drop (k + 1)) := by
  rw [List.drop_eq_getElem_cons h]
  generalize xs.drop (k + 1) = r
  generalize xs[k] = q
  simp [strs, mtRow, List.range_succ]

end Go.Proofs.Ytmlnecopbncdbaa
