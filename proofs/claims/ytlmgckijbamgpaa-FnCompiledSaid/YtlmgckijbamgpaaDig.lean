/- A text of one byte, as a row of one byte is turned into it. No function of the program is named here. -/
import Derived.Test.YtlmgckijbamgpaaBase
import Derived.Laws.BytesArg
namespace Go.Proofs.Ytlmgckijbamgpaa
set_option linter.unusedVariables false
set_option linter.unusedSimpArgs false
open Go.ChangeShapes Go.WideShapes Go.ChangeAt Go.RowKit

def dig1 (n : Int) : ByteArray := strOfNums [n]
theorem dig1_size (n : Int) : (dig1 n).size = 1 := by simp [dig1, strOfNums]; rfl
theorem cell_one_at (w : World) (n : Int) (i : Nat) (hi : i < 1) : (w.alloc (.cells #[.int .u8 n] 5)).cell? ⟨w.heap.size, 0 + i, none⟩ = some (.int .u8 ([n].getD i 0)) := by
  obtain rfl : i = 0 := by omega
  simp
theorem conv_byte (w : World) (n : Int) : (convert 38 9 (.slice (some ⟨w.heap.size, 0, none⟩) 1 1)).run Try.prog (w.alloc (.cells #[.int .u8 n] 5)) = .ok (.string (dig1 n)) (w.alloc (.cells #[.int .u8 n] 5)) :=
  run_convert_bytes_arg _ 38 5 Try.underlying38 Try.underlying5 w.heap.size 0 1 1 [n] rfl (fun i hi => cell_one_at w n i hi) 9 Try.underlying9
theorem conv_at {w : World} {b : Nat} {n : Int} (h : w.cell? ⟨b, 0, none⟩ = some (.int .u8 n)) : (convert 38 9 (.slice (some ⟨b, 0, none⟩) 1 1)).run Try.prog w = .ok (.string (dig1 n)) w := by
  have hc : ∀ i, i < 1 → w.cell? ⟨b, 0 + i, none⟩ = some (.int .u8 ([n].getD i 0)) := by
    intro i hi
    obtain rfl : i = 0 := by omega
    simpa using h
  exact run_convert_bytes_arg _ 38 5 Try.underlying38 Try.underlying5 b 0 1 1 [n] rfl hc 9 Try.underlying9
end Go.Proofs.Ytlmgckijbamgpaa
