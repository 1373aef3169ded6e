/- Fields read out of bytes: the program's walks of one field. -/
import Derived.Test.YtlmgckijbamgpaaFrS
namespace Go.Proofs.Ytlmgckijbamgpaa
set_option linter.unusedVariables false
set_option linter.unusedSimpArgs false
open Go.ChangeShapes Go.WideShapes Go.ChangeAt Go.RowKit
set_option maxRecDepth 100000

theorem Try.infoPl : (Try.prog.info? 119).map (fun i => (i.zero, i.size, i.bytes)) = some (some (.agg #[.int .i64 0, .int .i64 0, .int .i64 0, .string ByteArray.empty, .int .i64 0]), 5, 48) := by kernel_rfl
set_option maxHeartbeats 400000 in
theorem impl_unfoldW (n : Int) (w : World) (h : 0 ≤ n ∧ n < 34359738368) : Calls Try.prog 76 #[.int .i64 n] w fun e w' => e = .returned (.int .i64 (unfoldI n)) ∧ w = w' := by
  have e1 : IntKind.i64.wrap (n + 1) = n + 1 := IntWalk.i64_in _ (by omega)
  have e2 : IntKind.i64.wrap (-(n + 1)) = -(n + 1) := IntWalk.i64_in _ (by omega)
  have e3 : n.tmod 2 = n % 2 := Int.tmod_eq_emod_of_nonneg h.1
  have e4 : n.tdiv 2 = n / 2 := Int.tdiv_eq_ediv_of_nonneg h.1
  unfold unfoldI
  by_cases h1 : n % 2 = 1
  · have e5 : (-(n + 1)).tdiv 2 = -((n + 1) / 2) := by rw [Int.neg_tdiv, Int.tdiv_eq_ediv_of_nonneg (by omega)]
    have e6 : IntKind.i64.wrap (-((n + 1) / 2)) = -((n + 1) / 2) := IntWalk.i64_in _ (by omega)
    rw [if_pos h1]
    go_enter Try.func76, Try.ntmps76
    go_wp2_with fail
    go_ret
    exact ⟨rfl, rfl⟩
  · have e6 : IntKind.i64.wrap (n / 2) = n / 2 := IntWalk.i64_in _ (by omega)
    rw [if_neg h1]
    go_enter Try.func76, Try.ntmps76
    go_wp2_with fail
    go_ret
    exact ⟨rfl, rfl⟩
def takeB (s : ByteArray) (a : Nat) : ByteArray × Int × Bool :=
  if (tk s a).2.2 = true ∧ a + (tk s a).2.1 + (tk s a).1 ≤ s.size then (s.extract (a + (tk s a).2.1) (a + (tk s a).2.1 + (tk s a).1), ((a + (tk s a).2.1 + (tk s a).1 : Nat) : Int), true) else (⟨#[]⟩, 0, false)
set_option maxHeartbeats 1000000 in
theorem impl_takeBytes (s : ByteArray) (a : Nat) (w : World) (hs : s.size ≤ 1048576) (ha : a ≤ 1048576) : Calls Try.prog 143 #[.string s, .int .i64 (a : Int)] w fun e w' => e = .returned (.tuple #[.string (takeB s a).1, .int .i64 (takeB s a).2.1, .bool (takeB s a).2.2]) ∧ w = w' := by
  have HT := Lib.hid (impl_take s a w hs (by omega))
  unfold TakeRes at HT
  change Hid (Calls Try.prog 70 #[.string s, .int .i64 (a : Int)] w fun e w' => ∃ n en, e = .returned (.tuple #[.int .i64 ((n : Nat) : Int), .int .i64 en, .bool (tk s a).2.2]) ∧ n < 34359738368 ∧ ((tk s a).2.2 = true → n = (tk s a).1 ∧ en = (a : Int) + ((tk s a).2.1 : Int)) ∧ w = w') at HT
  have hbd := tk_bd s a
  have hln := tk_len (s := s) (a := a)
  unfold takeB
  generalize tk s a = R at *
  obtain ⟨n1, u1, b1⟩ := R
  simp only at hbd hln HT
  cases b1 with
  | false =>
    rw [if_neg (by simp)]
    go_enter Try.func143, Try.ntmps143
    go_wp2_with fail
    refine HT.out.mono ?_
    rintro e w' ⟨n, en, rfl, hn, _, rfl⟩
    go_wp2_with fail
    go_ret3
    exact ⟨rfl, rfl⟩
  | true =>
    obtain ⟨l1, l2, l3⟩ := hln rfl
    by_cases hfit : a + u1 + n1 ≤ s.size
    · rw [if_pos ⟨rfl, hfit⟩]
      obtain ⟨e1, he1⟩ : ∃ z, z = a + u1 := ⟨_, rfl⟩
      have hfi : ¬ (n1 : Int) > (s.size : Int) - (e1 : Int) := by omega
      simp only
      rw [← he1]
      have he1' : (a : Int) + (u1 : Int) = (e1 : Int) := by omega
      have hle : e1 + n1 ≤ s.size := by omega
      clear he1
      go_enter Try.func143, Try.ntmps143
      go_wp2_with fail
      refine HT.out.mono ?_
      rintro e w' ⟨n, en, rfl, hn, hh, rfl⟩
      obtain ⟨rfl, rfl⟩ := hh trivial
      rw [he1']
      go_wp2_with fail
      go_ret3
      exact ⟨by push_cast; rfl, rfl⟩
    · rw [if_neg (fun h => hfit h.2)]
      have hfi : (n1 : Int) > (s.size : Int) - ((a : Int) + (u1 : Int)) := by omega
      go_enter Try.func143, Try.ntmps143
      go_wp2_with fail
      refine HT.out.mono ?_
      rintro e w' ⟨n, en, rfl, hn, hh, rfl⟩
      obtain ⟨rfl, rfl⟩ := hh trivial
      go_wp2_with fail
      go_ret3
      exact ⟨rfl, rfl⟩
end Go.Proofs.Ytlmgckijbamgpaa
