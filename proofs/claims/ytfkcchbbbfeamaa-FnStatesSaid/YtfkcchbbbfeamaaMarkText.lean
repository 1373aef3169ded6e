/- The contract of the laws' markText: the text of a number's digits; marks laid into a list of texts, and looked for. -/
import Derived.Test.YtfkcchbbbfeamaaStrs
import Derived.Laws.BytesArg
namespace Go.Proofs.Ytfkcchbbbfeamaa
set_option linter.unusedVariables false
open Go.ChangeShapes Go.WideShapes Go.ChangeAt Go.RowKit

def dig1 (n : Int) : ByteArray := strOfNums [n]
theorem dig1_size (n : Int) : (dig1 n).size = 1 := by simp [dig1, strOfNums]; rfl
theorem cell_one_at (w : World) (n : Int) (i : Nat) (hi : i < 1) : (w.alloc (.cells #[.int .u8 n] 5)).cell? ⟨w.heap.size, 0 + i, none⟩ = some (.int .u8 ([n].getD i 0)) := by
  obtain rfl : i = 0 := by omega
  simp
theorem conv_byte (w : World) (n : Int) : (convert 33 9 (.slice (some ⟨w.heap.size, 0, none⟩) 1 1)).run Try.prog (w.alloc (.cells #[.int .u8 n] 5)) = .ok (.string (dig1 n)) (w.alloc (.cells #[.int .u8 n] 5)) :=
  run_convert_bytes_arg _ 33 5 Try.underlying33 Try.underlying5 w.heap.size 0 1 1 [n] rfl (fun i hi => cell_one_at w n i hi) 9 Try.underlying9

def mtS : Nat → Nat → ByteArray → ByteArray
  | 0, _, s => s
  | f + 1, k, s => if k = 0 then s else mtS f (k / 10) (dig1 (48 + (k : Int) % 10) ++ s)
def mt (k : Nat) : ByteArray := { data := #[109] } ++ mtS k k ByteArray.empty

set_option maxRecDepth 100000 in
set_option maxHeartbeats 1000000 in
theorem mark_text (k : Nat) (w : World) (hk : 1 ≤ k) (hk2 : k ≤ 1099511627776) :
    Calls Try.prog 64 #[.int .i64 (k : Int)] w fun e w' => e = .returned (.string (mt k)) ∧ Below w.heap.size w w' := by
  have hconv := conv_byte
  go_enter Try.func64, Try.ntmps64
  go_wp2_with fail
  go_loopw [0, 3] (fun kv ov wr => ∃ (f j : Nat) (s : ByteArray), j ≤ f ∧ s.size + j ≤ k ∧ Hid (mtS f j s = mtS k k ByteArray.empty) ∧ kv = .int .i64 (j : Int) ∧ ov = .string s ∧ Below w.heap.size w wr) (fun kv _ _ => (intOf kv).toNat)
  case atStart => exact ⟨k, k, ByteArray.empty, by omega, by simp, rfl, rfl, rfl, Below.refl _ _⟩
  case round =>
    obtain ⟨f, j, s, hj, hs, HS, rfl, rfl, hb⟩ := hrel
    by_cases h0 : 0 < j
    · have HB := Lib.hid hb; clear hb
      have hsz := dig1_size (48 + (j : Int) % 10)
      have HSZ := Lib.hid hsz
      have hsz1 : (dig1 (48 + (j : Int) % 10)).size ≤ 1 := by omega
      have hss : s.size ≤ 1099511627776 := by omega
      clear hsz
      go_wp2_with fail
      go_roundw
      case rel => exact ⟨f - 1, j / 10, dig1 (48 + (j : Int) % 10) ++ s, by omega, (by rw [ByteArray.size_append, HSZ.out]; omega), (by have h1 := HS.out; rw [show f = (f - 1) + 1 by omega, mtS, if_neg (by omega)] at h1; exact h1), by go_num, rfl, HB.out.alloc HB.out.size _⟩
      case measure => simp [intOf]; omega
    · have HB := Lib.hid hb; clear hb
      go_wp2_with fail
      go_ret
      refine ⟨?_, HB.out⟩
      have h1 := HS.out
      obtain rfl : j = 0 := by omega
      have h2 : mtS f 0 s = s := by cases f <;> simp [mtS]
      rw [h2] at h1
      rw [mt, ← h1]
      rfl
def mtRow (k n : Nat) : List ByteArray := (List.range n).map fun i => mt (k + i)
@[simp] theorem mtRow_length (k n : Nat) : (mtRow k n).length = n := by simp [mtRow]
theorem mtRow_set (k0 : Nat) (xs : List ByteArray) (k : Nat) (h : k < xs.length) :
    (strs (mtRow k0 k ++ xs.drop k)).set k (.string (mt (k0 + k))) = strs (mtRow k0 (k + 1) ++ xs.drop (k + 1)) := by
  rw [List.drop_eq_getElem_cons h]
  generalize xs.drop (k + 1) = r
  generalize xs[k] = q
  simp [strs, mtRow, List.range_succ]

set_option maxHeartbeats 400000 in
theorem mark_strs (base : Nat) (v : Value) (xs : List ByteArray) (k0 : Nat) (w : World) (a : Option Addr) (cap : Nat) (hv : v = .slice a xs.length cap) (ha : w.ownsRow base 9 1 v xs.length (strs xs)) (hn : xs.length ≤ 1048576) (h0 : 1 ≤ k0) (h1 : k0 ≤ 1048576) :
    Calls Try.prog 35 #[v, .int .i64 (k0 : Int)] w fun e w' => e = .returned (.int .i64 ((k0 : Int) + xs.length)) ∧ w'.ownsRow base 9 1 v xs.length (strs (mtRow k0 xs.length)) ∧ Wrote (fun k => v.ownBlock = some k) w w' := by
  subst hv
  go_enter Try.func35, Try.ntmps35
  go_wp2_with fail
  go_loopw [1, 5] (fun kv i wr => ∃ k : Nat, k ≤ xs.length ∧ i = .int .i64 k ∧ kv = .int .i64 ((k0 : Int) + k) ∧ wr.ownsRow base 9 1 (.slice a xs.length cap) xs.length (strs (mtRow k0 k ++ xs.drop k)) ∧ Wrote (fun k => (Value.slice a xs.length cap).ownBlock = some k) w wr) (fun _ i _ => xs.length - (intOf i).toNat)
  case atStart => exact ⟨0, Nat.zero_le _, rfl, by simp, by simpa [mtRow] using ha, Wrote.refl _ _⟩
  case round =>
    obtain ⟨k, hk, rfl, rfl, ho, hwr⟩ := hrel
    by_cases hlk : k < xs.length
    · obtain ⟨g, rfl⟩ : ∃ g, a = some ⟨g, 0, none⟩ := by
        rcases ho.2 with ⟨_, h⟩ | ⟨g, _, _, h, _⟩
        · omega
        · cases h; exact ⟨g, rfl⟩
      have hlen : k < (strs (mtRow k0 k ++ xs.drop k)).length := by simp; omega
      have hc2 : wr.cell? ⟨g, k, none⟩ = some ((strs (mtRow k0 k ++ xs.drop k))[k]) := by rw [ho.cellAt k (by omega)]; exact List.getElem?_eq_getElem hlen
      have hc3 := ho.frozenAt k
      have hst := fun (wx : World) (hx : Below wr.heap.size wr wx) => ((own_later ho hx).stored k (.string (mt (k0 + k)))).1
      rw [mtRow_set _ _ _ hlk] at hst
      have hglt := (ho.lt g rfl).2
      clear ho ha
      generalize (strs (mtRow k0 k ++ xs.drop k))[k] = s at *
      have HS := Lib.hid hst; clear hst
      have HW := Lib.hid hwr; clear hwr
      have hmt := mark_text (k0 + k) wr (by omega) (by omega)
      rw [Int.natCast_add] at hmt
      have HM := Lib.hid hmt; clear hmt
      go_wp2_with fail
      refine HM.out.mono ?_
      rintro e w1 ⟨rfl, hb1⟩
      have d2 : w1.cell? ⟨g, k, none⟩ = some s := (hb1.cell (p := ⟨g, k, none⟩) hglt).trans hc2
      have d3 : w1.frozen? ⟨g, k, none⟩ = false := (hb1.frozen (p := ⟨g, k, none⟩) hglt).trans hc3
      have HB1 := Lib.hid hb1; clear hb1
      go_wp2_with fail
      go_roundw
      case rel => exact ⟨k + 1, by omega, by go_num, by go_num, HS.out _ HB1.out, (HW.out.trans (Wrote.of_below HB1.out)).setCell (p := ⟨g, k, none⟩) rfl _⟩
      case measure => simp [intOf]; omega
    · go_wp2_with fail
      go_ret
      obtain rfl : k = xs.length := by omega
      rw [List.drop_length, List.append_nil] at ho
      exact ⟨rfl, ho, hwr⟩
end Go.Proofs.Ytfkcchbbbfeamaa
