/- The contract of the program's longest ending. -/
import Derived.Test.YtfkcchbbbfeamaaAut
namespace Go.Proofs.Ytfkcchbbbfeamaa
set_option linter.unusedVariables false
open Go.ChangeShapes Go.WideShapes Go.ChangeAt Go.RowKit
set_option maxRecDepth 100000

theorem inT_starts (ws : List ByteArray) : inT (textsR ws) = startsB ws := by
  funext s
  rw [Bool.eq_iff_iff, inT_iff, mem_texts]
theorem at_bd {l : List ByteArray} (s : ByteArray) : -1 ≤ atR l s ∧ atR l s < l.length := by
  by_cases h : s ∈ l
  · obtain ⟨k, h1, h2⟩ := at_mem h
    have := (List.getElem?_eq_some_iff.1 h2).1
    rw [h1]; omega
  · rw [at_none h]; omega
set_option maxHeartbeats 1000000 in
theorem impl_longest (ws : List ByteArray) (s : ByteArray) (A M : Nat) (w : World) (hc : w.cell? ⟨A, 2, none⟩ = some (.map (some M))) (hm : MapS w M (textsR ws)) (hs : s.size ≤ 1000) :
    Calls Try.prog 59 #[.pointer (some ⟨A, 0, none⟩), .string s] w fun e w' => e = .returned (.int .i64 (atR (textsR ws) (longR ws s))) ∧ w = w' := by
  have HM := Lib.hid hm
  have HE := Lib.hid (num_zero ws)
  unfold longR
  have HP := Lib.hid (inT_starts ws)
  have HZ : Hid (∀ t : ByteArray, startsB ws t = false → 0 < t.size) := Lib.hid fun t ht => by
    rcases Nat.eq_zero_or_pos t.size with h | h
    · rw [starts_def, decide_eq_true h] at ht; cases ht
    · exact h
  have HI := Lib.hid (fun t : ByteArray => inT_iff (l := textsR ws) (s := t))
  clear hm
  generalize textsR ws = tx at *
  go_enter Try.func59, Try.ntmps59
  go_wp2_with fail
  go_loop [1] (fun sv => ∃ t : ByteArray, sv = .string t ∧ t.size ≤ s.size ∧ Hid (longF (startsB ws) t.size t = longF (startsB ws) s.size s)) (fun sv => match sv with | .string t => t.size | _ => 0)
  case atStart => exact ⟨s, rfl, Nat.le_refl _, rfl⟩
  case round =>
    obtain ⟨t, rfl, ht, HT⟩ := hrel
    by_cases hz : t.size = 0
    · have hq : (t.toList == []) = true := by rw [eqE]; exact decide_eq_true hz
      have hq2 : t.toList.isEmpty = true := by rw [eqEm]; exact decide_eq_true hz
      have HR : Hid (atR tx (longF (startsB ws) s.size s) = 0) := Lib.hid (by
        have h := HT.out
        rw [← h, hz]
        unfold longF
        rw [size_zero hz]; exact HE.out)
      clear hz
      go_wp2_with fail
      go_ret
      exact ⟨ret_int HR.out.symm, rfl⟩
    · have hq : (t.toList == []) = false := by rw [eqE]; exact decide_eq_false hz
      have hq2 : t.toList.isEmpty = false := by rw [eqEm]; exact decide_eq_false hz
      have h1z : 1 ≤ t.size := by omega
      have hz1 : (1 : Int) ≤ (t.size : Int) := by omega
      have hez := ex_size t 1 t.size (Nat.le_refl _)
      cases hb : startsB ws t with
      | true =>
        have HL := Lib.hid ((long_here hb).symm.trans HT.out)
        have hin : inT tx t = true := by rw [HP.out]; exact hb
        have HMEM := Lib.hid ((HI.out t).1 hin)
        clear hb hz
        go_wp2_with (at_lookup; refine wpList_maps_ok rfl _ _ rfl M tx rfl HM.out t (by unfold maxLen; omega) rfl ?_; intro c hc; rw [hin])
        go_ret
        exact ⟨ret_int (by rw [hc HMEM.out, HL.out]), rfl⟩
      | false =>
        have HL := Lib.hid ((long_step hb (by omega)).trans HT.out)
        have hin : inT tx t = false := by rw [HP.out]; exact hb
        clear hb hz
        go_wp2_with (at_lookup; refine wpList_maps_ok rfl _ _ rfl M tx rfl HM.out t (by unfold maxLen; omega) rfl ?_; intro c hc; rw [hin])
        go_round
        case rel => exact ⟨t.extract 1 t.size, rfl, by omega, HL.out⟩
        case measure => show (t.extract 1 t.size).size < t.size; omega
end Go.Proofs.Ytfkcchbbbfeamaa
